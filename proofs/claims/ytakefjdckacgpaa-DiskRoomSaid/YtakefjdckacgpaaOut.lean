/- codec.Out: contracts by what each call means. -/
import Derived.Test.YtakefjdckacgpaaBuild
import Derived.IntWalk
import Derived.Lib.Hide
import Derived.LoopTactic
import Derived.WalkSpells
import Derived.Deep.RegionHeld3
import Derived.Deep.RegionWith
import Derived.Deep.DrawnRows
namespace Go.Proofs.Ytakefjdckacgpaa.Cod
open Go.RowKit
attribute [local go_sem ↓] Go.wp_at_zero Go.wp_at_succ
theorem digs_get (x : Nat) : ∀ j, j < (digs x).length → (digs x)[j]? = some (UInt8.ofNat (x / 256 ^ ((digs x).length - 1 - j) % 256)) := by
  induction x using Nat.strongRecOn with
  | _ x ih =>
    intro j hj
    rcases Nat.eq_zero_or_pos x with h | h
    · subst h; simp [digs_zero] at hj
    · rw [digs_pos h] at hj ⊢
      simp only [List.length_append, List.length_singleton] at hj ⊢
      by_cases hl : j < (digs (x / 256)).length
      · rw [List.getElem?_append_left hl, ih _ (by omega) j hl, Nat.div_div_eq_div_mul]
        have e : 256 * 256 ^ ((digs (x / 256)).length - 1 - j) = 256 ^ ((digs (x / 256)).length + 1 - 1 - j) := by
          rw [Nat.mul_comm, ← Nat.pow_succ]; congr 1; omega
        rw [e]
      · obtain rfl : j = (digs (x / 256)).length := by omega
        rw [List.getElem?_append_right (Nat.le_refl _), Nat.sub_self]
        simp
theorem digs_len_div (x : Nat) (h : 0 < x) : (digs x).length = (digs (x / 256)).length + 1 := by rw [digs_pos h]; simp
theorem digs_take (x j : Nat) (h : j < (digs x).length) : (digs x).take (j + 1) = (digs x).take j ++ [UInt8.ofNat (x / 256 ^ ((digs x).length - 1 - j) % 256)] := by
  rw [List.take_add_one, digs_get x j h]; rfl
theorem byte_at (m j : Nat) : IntKind.u8.wrap ((m : Int) / 2 ^ (8 * (j : Int)).toNat) = ((UInt8.ofNat (m / 256 ^ j % 256)).toNat : Int) := by
  have e1 : (8 * (j : Int)).toNat = 8 * j := by omega
  have e2 : (2 : Int) ^ (8 * j) = ((256 ^ j : Nat) : Int) := by rw [Int.pow_mul]; simp
  rw [e1, e2, ← Int.natCast_ediv]
  show ((m / 256 ^ j : Nat) : Int) % 256 = _
  rw [toNat_ofNat _ (by omega)]
  omega
end Go.Proofs.Ytakefjdckacgpaa.Cod
