/- codec.Out: contracts by what each call means. -/
import Derived.Test.YtdpkodhfelnedaaDoorBuild
import Derived.IntWalk
import Derived.Lib.Hide
import Derived.LoopTactic
import Derived.WalkSpells
import Derived.Deep.RegionHeld3
import Derived.Deep.RegionWith
import Derived.Deep.DrawnRows
namespace Go.Proofs.YtdpkodhfelnedaaDoor.Cod
open Go.RowKit
attribute [local go_sem ↓] Go.wp_at_zero Go.wp_at_succ
theorem bt_out : BT 52 := ⟨by kernel_rfl, by decide⟩
theorem digs_get (x : Nat) : ∀ j, j < (digs x).length → (digs x)[j]? = some (UInt8.ofNat (x / 256 ^ ((digs x).length - 1 - j) % 256)) := by
  induction x using Nat.strongRecOn with
  | _ x ih =>
    intro j hj
    rcases Nat.eq_zero_or_pos x with h | h
    · subst h; simp [digs_zero] at hj
    · rw [digs_pos h] at hj ⊢
      simp only [List.length_append, List.length_singleton] at hj ⊢
      by_cases hl : j < (digs (x / 256)).length
      · rw [List.getElem?_append_left hl, ih _ (by omega) j hl, Nat.div_div_eq_div_mul]
        have e : 256 * 256 ^ ((digs (x / 256)).length - 1 - j) = 256 ^ ((digs (x / 256)).length + 1 - 1 - j) := by
          rw [Nat.mul_comm, ← Nat.pow_succ]; congr 1; omega
        rw [e]
      · obtain rfl : j = (digs (x / 256)).length := by omega
        rw [List.getElem?_append_right (Nat.le_refl _), Nat.sub_self]
        simp
theorem digs_len_div (x : Nat) (h : 0 < x) : (digs x).length = (digs (x / 256)).length + 1 := by rw [digs_pos h]; simp
theorem digs_take (x j : Nat) (h : j < (digs x).length) : (digs x).take (j + 1) = (digs x).take j ++ [UInt8.ofNat (x / 256 ^ ((digs x).length - 1 - j) % 256)] := by
  rw [List.take_add_one, digs_get x j h]; rfl
theorem byte_at (m j : Nat) : IntKind.u8.wrap ((m : Int) / 2 ^ (8 * (j : Int)).toNat) = ((UInt8.ofNat (m / 256 ^ j % 256)).toNat : Int) := by
  have e1 : (8 * (j : Int)).toNat = 8 * j := by omega
  have e2 : (2 : Int) ^ (8 * j) = ((256 ^ j : Nat) : Int) := by rw [Int.pow_mul]; simp
  rw [e1, e2, ← Int.natCast_ediv]
  show ((m / 256 ^ j : Nat) : Int) % 256 = _
  rw [toNat_ofNat _ (by omega)]
  omega
set_option maxHeartbeats 800000 in
set_option maxRecDepth 100000 in
theorem C_onum {B b : Nat} {l : List UInt8} {w : World} (x : Int) (hx : x ≤ 9223372036854775807) (hx0 : -9223372036854775808 ≤ x) (h : Bd 52 B b l w) (hlen : l.length ≤ 100000000000000) :
    Calls Tryd.prog 18 #[.pointer (some ⟨b, 0, none⟩), .int .i64 x] w fun e w' => e = .returned (.pointer (some ⟨b, 0, none⟩)) ∧ Bd 52 B b (l ++ numB x.toNat) w' ∧ Fr B b w w' := by
  obtain ⟨m, hm, hm63⟩ : ∃ m : Nat, max x 0 = (m : Int) ∧ m < 9223372036854775808 := ⟨(max x 0).toNat, by omega, by omega⟩
  have hxm : x.toNat = m := by omega
  rw [hxm]
  have h8 := digs_len_8 hm63
  have hxc : max x 0 = (m : Int) := hm
  clear hm hxm
  go_enter Tryd.func18, Tryd.ntmps18
  go_wp2
  go_loop [5, 6] (fun n y => ∃ k z : Nat, n = .int .i64 k ∧ y = .int .i64 z ∧ z ≤ m ∧ k + (digs z).length = (digs m).length) (fun _ y => (intOf y).toNat)
  case atStart => exact ⟨0, m, rfl, rfl, Nat.le_refl _, by omega⟩
  case round =>
    obtain ⟨k, z, rfl, rfl, hz, hk⟩ := hrel
    by_cases h0 : 0 < z
    · have hl := digs_len_div z h0
      go_wp2
      go_round
      case rel => exact ⟨k + 1, z / 256, by go_num, by go_num, by omega, by omega⟩
      case measure => simp [intOf]; omega
    · obtain rfl : z = 0 := by omega
      rw [digs_zero] at hk
      obtain rfl : k = (digs m).length := by simpa using hk
      clear h0 hk hz
      go_wp2_with (go_at_call 30; ((with_reducible refine (C_byte bt_out _ (UInt8.ofNat (digs m).length) (by simp; omega) h (by omega)).mono ?_); rintro e w1 ⟨rfl, h1, f1⟩))
      clear h
      go_loopw [7] (fun i wr => ∃ k : Nat, k ≤ (digs m).length ∧ i = .int .i64 ((k : Int) - 1) ∧ Bd 52 B b (l ++ UInt8.ofNat (digs m).length :: (digs m).take ((digs m).length - k)) wr ∧ Fr B b w wr) (fun i _ => (intOf i + 1).toNat)
      case atStart => exact ⟨(digs m).length, Nat.le_refl _, rfl, by simpa using h1, f1⟩
      case round =>
        obtain ⟨k, hk, rfl, hb, hf⟩ := hrel
        by_cases h0 : 0 < k
        · obtain ⟨j, rfl⟩ : ∃ j, k = j + 1 := ⟨k - 1, by omega⟩
          rw [show ((j + 1 : Nat) : Int) - 1 = (j : Int) by omega]
          have hj8 : j < 8 := by omega
          have hj8' : (j : Int) < 8 := by omega
          have hj0 : (0 : Int) ≤ (j : Int) := by omega
          have hj1 : (0 : Int) ≤ 8 * (j : Int) := by omega
          have hw8 : IntKind.i64.wrap (8 * (j : Int)) = 8 * (j : Int) := IntWalk.i64_in _ (by omega)
          have hlb : (l ++ UInt8.ofNat (digs m).length :: (digs m).take ((digs m).length - (j + 1))).length + 1 ≤ 140737488355328 := by simp; omega
          have hb' : Bd 52 B b (l ++ UInt8.ofNat (digs m).length :: (digs m).take ((digs m).length - (j + 1))) wr.drew := hb
          go_wp2
          go_region_with ((go_at_call 30; ((with_reducible refine (C_byte bt_out _ (UInt8.ofNat (m / 256 ^ j % 256)) (byte_at m j) hb' hlb).mono ?_); rintro e w2 ⟨rfl, h2, f2⟩)))
          clear hw8 hj1
          go_wp2
          go_roundw
          case rel =>
            refine ⟨j, by omega, rfl, ?_, hf.trans ((Fr.drew _ _ _).trans f2)⟩
            have e := digs_take m ((digs m).length - (j + 1)) (by omega)
            rw [show (digs m).length - (j + 1) + 1 = (digs m).length - j by omega, show (digs m).length - 1 - ((digs m).length - (j + 1)) = j by omega] at e
            rw [e]
            simpa using h2
          case measure => simp [intOf]
        · obtain rfl : k = 0 := by omega
          go_wp2
          go_ret
          exact ⟨rfl, by simpa [numB] using hb, hf⟩
end Go.Proofs.YtdpkodhfelnedaaDoor.Cod
