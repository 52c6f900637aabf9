/- The document's digest: turn, down, keys. Contracts by what each means. -/
import Derived.Test.YtgdpbnmhhbnkgaaDoorDigOf
import Derived.Test.YtgdpbnmhhbnkgaaDoorFix2
namespace Go.Proofs.YtgdpbnmhhbnkgaaDoor.Cod
open Go.RowKit
theorem ret_u64 {a b : Int} (h : a = b) : Ending.returned (.int .u64 a) = .returned (.int .u64 b) := by rw [h]
theorem rotr_zero (x : Nat) : rotr 0 x = x := by unfold rotr; simp [Nat.mod_one]
theorem rotr_succ (k x : Nat) (hk : k < 32) : rotr (k + 1) x = rotr k x / 2 + rotr k x % 2 * 2147483648 := by
  have hM : 2 ^ (32 - k) = 2 * 2 ^ (31 - k) := by rw [show 32 - k = (31 - k) + 1 by omega, Nat.pow_succ, Nat.mul_comm]
  have h31 : 2 ^ k * 2 ^ (31 - k) = 2147483648 := by rw [← Nat.pow_add, show k + (31 - k) = 31 by omega]
  unfold rotr
  rw [show 32 - (k + 1) = 31 - k by omega, hM, Nat.mod_pow_succ, Nat.pow_succ, ← Nat.div_div_eq_div_mul, Nat.add_mul]
  generalize x / 2 ^ k = q
  have e1 : 2 ^ k * (q % 2) * 2 ^ (31 - k) = q % 2 * 2147483648 := by rw [← h31, Nat.mul_comm (2 ^ k), Nat.mul_assoc]
  have e2 : x % 2 ^ k * (2 * 2 ^ (31 - k)) = 2 * (x % 2 ^ k * 2 ^ (31 - k)) := by rw [← Nat.mul_assoc, Nat.mul_comm _ 2, Nat.mul_assoc]
  rw [e1, e2]
  generalize x % 2 ^ k * 2 ^ (31 - k) = T
  omega
set_option maxHeartbeats 800000 in
set_option maxRecDepth 100000 in
theorem R_turn (x n : Nat) (hx : x < 4294967296) (hn : n ≤ 32) (w : World) : Calls Tryd.prog 78 #[.int .u64 x, .int .i64 n] w fun e w' => e = .returned (.int .u64 (rotr n x : Nat)) ∧ w' = w := by
  go_enter Tryd.func78, Tryd.ntmps78
  go_wp2
  go_loop [0, 5] (fun y i => ∃ k : Nat, k ≤ n ∧ i = .int .i64 k ∧ y = .int .u64 (rotr k x : Nat)) (fun _ i => n - (intOf i).toNat)
  case atStart => exact ⟨0, by omega, rfl, by rw [rotr_zero]⟩
  case round =>
    obtain ⟨k, hk, rfl, rfl⟩ := hrel
    by_cases hlt : k < n
    · have h1 := rotr_lt k x (by omega) hx
      have h2 := rotr_succ k x (by omega)
      generalize rotr k x = r at h1 h2
      have e1 : IntKind.u64.wrap ((r : Int) / 2 + IntKind.u64.wrap ((r : Int) % 2 * 2147483648)) = ((r / 2 + r % 2 * 2147483648 : Nat) : Int) := by
        show ((r : Int) / 2 + ((r : Int) % 2 * 2147483648) % 18446744073709551616) % 18446744073709551616 = _
        omega
      have H2 := Lib.hid h2
      clear h2
      go_wp2
      exact ⟨⟨k + 1, by omega, by go_num, by rw [H2.out]; go_num⟩, by simp [intOf]; omega⟩
    · obtain rfl : k = n := by omega
      go_wp2
      go_ret
      exact ⟨rfl, rfl⟩
theorem R_t (x : Nat) (n : Int) (k : Nat) (h : n = (k : Int)) (hx : x < 4294967296) (hn : k ≤ 32) (w : World) : Calls Tryd.prog 78 #[.int .u64 x, .int .i64 n] w fun e w' => e = .returned (.int .u64 (rotr k x : Nat)) ∧ w' = w := by
  subst h; exact R_turn x k hx hn w
set_option maxHeartbeats 800000 in
set_option maxRecDepth 100000 in
theorem R_down (x n : Nat) (hx : x < 4294967296) (hn : n ≤ 32) (w : World) : Calls Tryd.prog 79 #[.int .u64 x, .int .i64 n] w fun e w' => e = .returned (.int .u64 (x / 2 ^ n : Nat)) ∧ w' = w := by
  go_enter Tryd.func79, Tryd.ntmps79
  go_wp2
  go_loop [0, 5] (fun y i => ∃ k : Nat, k ≤ n ∧ i = .int .i64 k ∧ y = .int .u64 (x / 2 ^ k : Nat)) (fun _ i => n - (intOf i).toNat)
  case atStart => exact ⟨0, by omega, rfl, by simp⟩
  case round =>
    obtain ⟨k, hk, rfl, rfl⟩ := hrel
    by_cases hlt : k < n
    · have h1 : x / 2 ^ k ≤ x := Nat.div_le_self _ _
      have h2 : x / 2 ^ (k + 1) = x / 2 ^ k / 2 := by rw [Nat.pow_succ, Nat.div_div_eq_div_mul]
      generalize x / 2 ^ k = r at h1 h2
      have H2 := Lib.hid h2
      clear h2
      go_wp2
      exact ⟨⟨k + 1, by omega, by go_num, by rw [H2.out]; go_num⟩, by simp [intOf]; omega⟩
    · obtain rfl : k = n := by omega
      go_wp2
      go_ret
      exact ⟨rfl, rfl⟩
theorem R_d (x : Nat) (n : Int) (k y : Nat) (h : n = (k : Int)) (hy : 2 ^ k = y) (hx : x < 4294967296) (hn : k ≤ 32) (w : World) : Calls Tryd.prog 79 #[.int .u64 x, .int .i64 n] w fun e w' => e = .returned (.int .u64 (x / y : Nat)) ∧ w' = w := by
  subst h hy; exact R_down x k hx hn w
/-- an array of words, as the document has them -/
def words64 (l : List Nat) : Array Value := (l.map fun x : Nat => Value.int .u64 (x : Int)).toArray
theorem words64_get (l : List Nat) (k x : Nat) (h : l[k]? = some x) : (words64 l)[k]? = some (.int .u64 (x : Int)) := by simp [words64, h]
set_option maxHeartbeats 800000 in
set_option maxRecDepth 100000 in
theorem R_keys (w : World) : Calls Tryd.prog 77 #[] w fun e w' => e = .returned (.slice (some ⟨w.heap.size, 0, none⟩) 64 64) ∧ w' = w.alloc (.cells (words64 KEYS) 39) := by
  go_enter Tryd.func77, Tryd.ntmps77
  go_wp2
  go_ret
  exact ⟨rfl, rfl⟩
end Go.Proofs.YtgdpbnmhhbnkgaaDoor.Cod
