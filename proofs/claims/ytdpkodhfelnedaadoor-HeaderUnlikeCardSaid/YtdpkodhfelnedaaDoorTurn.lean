/- digest.turn. Contracts by what each call means. -/
import Derived.Test.YtdpkodhfelnedaaDoorSha
import Derived.Test.YtdpkodhfelnedaaDoorProg
import Derived.WalkKit
import Derived.KernelRfl
import Derived.Lib.Hide
namespace Go.Proofs.YtdpkodhfelnedaaDoor.Cod
open Go.RowKit
theorem ret_u32 {a b : Int} (h : a = b) : Ending.returned (.int .u32 a) = .returned (.int .u32 b) := by rw [h]
theorem rot_eq (n s : Nat) (hs : s = 32 - n) (hn : n ≤ 32) (x : Nat) (hx : x < 4294967296) : bits .or .u32 (IntKind.u32.wrap ((x : Int) * 2 ^ s)) ((x : Int) / 2 ^ n) = ((rotr n x : Nat) : Int) := by
  subst hs
  have e1 : IntKind.u32.wrap ((x : Int) * 2 ^ (32 - n)) = ((x * 2 ^ (32 - n) % 4294967296 : Nat) : Int) := by
    show ((x : Int) * 2 ^ (32 - n)) % 4294967296 = _
    simp
  have e2 : (x : Int) / 2 ^ n = ((x / 2 ^ n : Nat) : Int) := by simp
  have h2 : x / 2 ^ n ≤ x := Nat.div_le_self _ _
  rw [e1, e2, or32 _ _ (Nat.mod_lt _ (by omega)) (by omega), rotr_or n x hn hx]
set_option maxHeartbeats 800000 in
set_option maxRecDepth 100000 in
theorem C_rot7 (x : Nat) (hx : x < 4294967296) (w : World) : Calls Tryd.prog 50 #[.int .u32 x, .int .i64 (-7)] w fun e w' => e = .returned (.int .u32 (rotr 7 x : Nat)) ∧ w' = w := by
  have hs : bits .and .u64 (IntKind.u64.wrap (-7)) 31 = 25 := by kernel_rfl
  go_enter Tryd.func50, Tryd.ntmps50
  go_wp2
  go_ret
  exact ⟨ret_u32 (rot_eq 7 25 (by decide) (by decide) x hx), rfl⟩
set_option maxHeartbeats 800000 in
set_option maxRecDepth 100000 in
theorem C_turn7 (x : Nat) (hx : x < 4294967296) (w : World) : Calls Tryd.prog 43 #[.int .u32 x, .int .i64 7] w fun e w' => e = .returned (.int .u32 (rotr 7 x : Nat)) ∧ w' = w := by
  go_enter Tryd.func43, Tryd.ntmps43
  go_wp2_with (go_at_call 50; with_reducible refine (C_rot7 x hx _).mono ?_; rintro e w1 ⟨rfl, rfl⟩)
  go_ret
  exact ⟨rfl, rfl⟩
set_option maxHeartbeats 800000 in
set_option maxRecDepth 100000 in
theorem C_rot18 (x : Nat) (hx : x < 4294967296) (w : World) : Calls Tryd.prog 50 #[.int .u32 x, .int .i64 (-18)] w fun e w' => e = .returned (.int .u32 (rotr 18 x : Nat)) ∧ w' = w := by
  have hs : bits .and .u64 (IntKind.u64.wrap (-18)) 31 = 14 := by kernel_rfl
  go_enter Tryd.func50, Tryd.ntmps50
  go_wp2
  go_ret
  exact ⟨ret_u32 (rot_eq 18 14 (by decide) (by decide) x hx), rfl⟩
set_option maxHeartbeats 800000 in
set_option maxRecDepth 100000 in
theorem C_turn18 (x : Nat) (hx : x < 4294967296) (w : World) : Calls Tryd.prog 43 #[.int .u32 x, .int .i64 18] w fun e w' => e = .returned (.int .u32 (rotr 18 x : Nat)) ∧ w' = w := by
  go_enter Tryd.func43, Tryd.ntmps43
  go_wp2_with (go_at_call 50; with_reducible refine (C_rot18 x hx _).mono ?_; rintro e w1 ⟨rfl, rfl⟩)
  go_ret
  exact ⟨rfl, rfl⟩
set_option maxHeartbeats 800000 in
set_option maxRecDepth 100000 in
theorem C_rot17 (x : Nat) (hx : x < 4294967296) (w : World) : Calls Tryd.prog 50 #[.int .u32 x, .int .i64 (-17)] w fun e w' => e = .returned (.int .u32 (rotr 17 x : Nat)) ∧ w' = w := by
  have hs : bits .and .u64 (IntKind.u64.wrap (-17)) 31 = 15 := by kernel_rfl
  go_enter Tryd.func50, Tryd.ntmps50
  go_wp2
  go_ret
  exact ⟨ret_u32 (rot_eq 17 15 (by decide) (by decide) x hx), rfl⟩
set_option maxHeartbeats 800000 in
set_option maxRecDepth 100000 in
theorem C_turn17 (x : Nat) (hx : x < 4294967296) (w : World) : Calls Tryd.prog 43 #[.int .u32 x, .int .i64 17] w fun e w' => e = .returned (.int .u32 (rotr 17 x : Nat)) ∧ w' = w := by
  go_enter Tryd.func43, Tryd.ntmps43
  go_wp2_with (go_at_call 50; with_reducible refine (C_rot17 x hx _).mono ?_; rintro e w1 ⟨rfl, rfl⟩)
  go_ret
  exact ⟨rfl, rfl⟩
set_option maxHeartbeats 800000 in
set_option maxRecDepth 100000 in
theorem C_rot19 (x : Nat) (hx : x < 4294967296) (w : World) : Calls Tryd.prog 50 #[.int .u32 x, .int .i64 (-19)] w fun e w' => e = .returned (.int .u32 (rotr 19 x : Nat)) ∧ w' = w := by
  have hs : bits .and .u64 (IntKind.u64.wrap (-19)) 31 = 13 := by kernel_rfl
  go_enter Tryd.func50, Tryd.ntmps50
  go_wp2
  go_ret
  exact ⟨ret_u32 (rot_eq 19 13 (by decide) (by decide) x hx), rfl⟩
set_option maxHeartbeats 800000 in
set_option maxRecDepth 100000 in
theorem C_turn19 (x : Nat) (hx : x < 4294967296) (w : World) : Calls Tryd.prog 43 #[.int .u32 x, .int .i64 19] w fun e w' => e = .returned (.int .u32 (rotr 19 x : Nat)) ∧ w' = w := by
  go_enter Tryd.func43, Tryd.ntmps43
  go_wp2_with (go_at_call 50; with_reducible refine (C_rot19 x hx _).mono ?_; rintro e w1 ⟨rfl, rfl⟩)
  go_ret
  exact ⟨rfl, rfl⟩
set_option maxHeartbeats 800000 in
set_option maxRecDepth 100000 in
theorem C_rot6 (x : Nat) (hx : x < 4294967296) (w : World) : Calls Tryd.prog 50 #[.int .u32 x, .int .i64 (-6)] w fun e w' => e = .returned (.int .u32 (rotr 6 x : Nat)) ∧ w' = w := by
  have hs : bits .and .u64 (IntKind.u64.wrap (-6)) 31 = 26 := by kernel_rfl
  go_enter Tryd.func50, Tryd.ntmps50
  go_wp2
  go_ret
  exact ⟨ret_u32 (rot_eq 6 26 (by decide) (by decide) x hx), rfl⟩
set_option maxHeartbeats 800000 in
set_option maxRecDepth 100000 in
theorem C_turn6 (x : Nat) (hx : x < 4294967296) (w : World) : Calls Tryd.prog 43 #[.int .u32 x, .int .i64 6] w fun e w' => e = .returned (.int .u32 (rotr 6 x : Nat)) ∧ w' = w := by
  go_enter Tryd.func43, Tryd.ntmps43
  go_wp2_with (go_at_call 50; with_reducible refine (C_rot6 x hx _).mono ?_; rintro e w1 ⟨rfl, rfl⟩)
  go_ret
  exact ⟨rfl, rfl⟩
set_option maxHeartbeats 800000 in
set_option maxRecDepth 100000 in
theorem C_rot11 (x : Nat) (hx : x < 4294967296) (w : World) : Calls Tryd.prog 50 #[.int .u32 x, .int .i64 (-11)] w fun e w' => e = .returned (.int .u32 (rotr 11 x : Nat)) ∧ w' = w := by
  have hs : bits .and .u64 (IntKind.u64.wrap (-11)) 31 = 21 := by kernel_rfl
  go_enter Tryd.func50, Tryd.ntmps50
  go_wp2
  go_ret
  exact ⟨ret_u32 (rot_eq 11 21 (by decide) (by decide) x hx), rfl⟩
set_option maxHeartbeats 800000 in
set_option maxRecDepth 100000 in
theorem C_turn11 (x : Nat) (hx : x < 4294967296) (w : World) : Calls Tryd.prog 43 #[.int .u32 x, .int .i64 11] w fun e w' => e = .returned (.int .u32 (rotr 11 x : Nat)) ∧ w' = w := by
  go_enter Tryd.func43, Tryd.ntmps43
  go_wp2_with (go_at_call 50; with_reducible refine (C_rot11 x hx _).mono ?_; rintro e w1 ⟨rfl, rfl⟩)
  go_ret
  exact ⟨rfl, rfl⟩
set_option maxHeartbeats 800000 in
set_option maxRecDepth 100000 in
theorem C_rot25 (x : Nat) (hx : x < 4294967296) (w : World) : Calls Tryd.prog 50 #[.int .u32 x, .int .i64 (-25)] w fun e w' => e = .returned (.int .u32 (rotr 25 x : Nat)) ∧ w' = w := by
  have hs : bits .and .u64 (IntKind.u64.wrap (-25)) 31 = 7 := by kernel_rfl
  go_enter Tryd.func50, Tryd.ntmps50
  go_wp2
  go_ret
  exact ⟨ret_u32 (rot_eq 25 7 (by decide) (by decide) x hx), rfl⟩
set_option maxHeartbeats 800000 in
set_option maxRecDepth 100000 in
theorem C_turn25 (x : Nat) (hx : x < 4294967296) (w : World) : Calls Tryd.prog 43 #[.int .u32 x, .int .i64 25] w fun e w' => e = .returned (.int .u32 (rotr 25 x : Nat)) ∧ w' = w := by
  go_enter Tryd.func43, Tryd.ntmps43
  go_wp2_with (go_at_call 50; with_reducible refine (C_rot25 x hx _).mono ?_; rintro e w1 ⟨rfl, rfl⟩)
  go_ret
  exact ⟨rfl, rfl⟩
set_option maxHeartbeats 800000 in
set_option maxRecDepth 100000 in
theorem C_rot2 (x : Nat) (hx : x < 4294967296) (w : World) : Calls Tryd.prog 50 #[.int .u32 x, .int .i64 (-2)] w fun e w' => e = .returned (.int .u32 (rotr 2 x : Nat)) ∧ w' = w := by
  have hs : bits .and .u64 (IntKind.u64.wrap (-2)) 31 = 30 := by kernel_rfl
  go_enter Tryd.func50, Tryd.ntmps50
  go_wp2
  go_ret
  exact ⟨ret_u32 (rot_eq 2 30 (by decide) (by decide) x hx), rfl⟩
set_option maxHeartbeats 800000 in
set_option maxRecDepth 100000 in
theorem C_turn2 (x : Nat) (hx : x < 4294967296) (w : World) : Calls Tryd.prog 43 #[.int .u32 x, .int .i64 2] w fun e w' => e = .returned (.int .u32 (rotr 2 x : Nat)) ∧ w' = w := by
  go_enter Tryd.func43, Tryd.ntmps43
  go_wp2_with (go_at_call 50; with_reducible refine (C_rot2 x hx _).mono ?_; rintro e w1 ⟨rfl, rfl⟩)
  go_ret
  exact ⟨rfl, rfl⟩
set_option maxHeartbeats 800000 in
set_option maxRecDepth 100000 in
theorem C_rot13 (x : Nat) (hx : x < 4294967296) (w : World) : Calls Tryd.prog 50 #[.int .u32 x, .int .i64 (-13)] w fun e w' => e = .returned (.int .u32 (rotr 13 x : Nat)) ∧ w' = w := by
  have hs : bits .and .u64 (IntKind.u64.wrap (-13)) 31 = 19 := by kernel_rfl
  go_enter Tryd.func50, Tryd.ntmps50
  go_wp2
  go_ret
  exact ⟨ret_u32 (rot_eq 13 19 (by decide) (by decide) x hx), rfl⟩
set_option maxHeartbeats 800000 in
set_option maxRecDepth 100000 in
theorem C_turn13 (x : Nat) (hx : x < 4294967296) (w : World) : Calls Tryd.prog 43 #[.int .u32 x, .int .i64 13] w fun e w' => e = .returned (.int .u32 (rotr 13 x : Nat)) ∧ w' = w := by
  go_enter Tryd.func43, Tryd.ntmps43
  go_wp2_with (go_at_call 50; with_reducible refine (C_rot13 x hx _).mono ?_; rintro e w1 ⟨rfl, rfl⟩)
  go_ret
  exact ⟨rfl, rfl⟩
set_option maxHeartbeats 800000 in
set_option maxRecDepth 100000 in
theorem C_rot22 (x : Nat) (hx : x < 4294967296) (w : World) : Calls Tryd.prog 50 #[.int .u32 x, .int .i64 (-22)] w fun e w' => e = .returned (.int .u32 (rotr 22 x : Nat)) ∧ w' = w := by
  have hs : bits .and .u64 (IntKind.u64.wrap (-22)) 31 = 10 := by kernel_rfl
  go_enter Tryd.func50, Tryd.ntmps50
  go_wp2
  go_ret
  exact ⟨ret_u32 (rot_eq 22 10 (by decide) (by decide) x hx), rfl⟩
set_option maxHeartbeats 800000 in
set_option maxRecDepth 100000 in
theorem C_turn22 (x : Nat) (hx : x < 4294967296) (w : World) : Calls Tryd.prog 43 #[.int .u32 x, .int .i64 22] w fun e w' => e = .returned (.int .u32 (rotr 22 x : Nat)) ∧ w' = w := by
  go_enter Tryd.func43, Tryd.ntmps43
  go_wp2_with (go_at_call 50; with_reducible refine (C_rot22 x hx _).mono ?_; rintro e w1 ⟨rfl, rfl⟩)
  go_ret
  exact ⟨rfl, rfl⟩
end Go.Proofs.YtdpkodhfelnedaaDoor.Cod
