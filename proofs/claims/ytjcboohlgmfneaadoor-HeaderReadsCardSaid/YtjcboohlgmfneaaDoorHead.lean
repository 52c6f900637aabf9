/- ref01.Head reads as codec.number does. -/
import Derived.Test.YtjcboohlgmfneaaDoorIn
namespace Go.Proofs.YtjcboohlgmfneaaDoor.Cod
open Go.RowKit
set_option linter.unusedVariables false
theorem rh_step (v : Nat) (c : UInt8) (hv : v < 36028797018963968) : wrap64 (wrap64 (256 * (v : Int)) + wrap64 (c.toNat : Int)) = ((256 * v + c.toNat : Nat) : Int) := by
  have := c.toNat_lt
  unfold wrap64
  omega
def HdR (s : ByteArray) (w : World) (x k e : Nat) : Prop := Calls Tryd.prog 36 #[.string s] w fun f w' => f = .returned (.tuple #[.int .i64 x, .int .i64 k, .int .i64 e]) ∧ w = w'
set_option maxHeartbeats 800000 in
set_option maxRecDepth 100000 in
theorem rh_nil (s : ByteArray) (w : World) (h0 : s.size = 0) : HdR s w 0 0 2 := by
  have c1 : (s.size : Int) = 0 := by omega
  have c1' : ((s.size : Int) == 0) = true := by simpa using h0
  clear h0
  unfold HdR
  go_enter Tryd.func36, Tryd.ntmps36
  go_wp2
  go_ret3
  exact ⟨rfl, rfl⟩
set_option maxHeartbeats 800000 in
set_option maxRecDepth 100000 in
theorem rh_great (s : ByteArray) (w : World) (h0 : 0 < s.size) (h8 : 8 < (s[0]).toNat) : HdR s w 0 0 3 := by
  have c1 : ¬ (s.size : Int) = 0 := by omega
  have c1' : ((s.size : Int) == 0) = false := by rw [beq_eq_false_iff_ne]; exact c1
  have hb := (s[0]).toNat_lt
  have h8' : (8 : Int) < ((s[0]).toNat : Int) := by omega
  unfold HdR
  go_enter Tryd.func36, Tryd.ntmps36
  go_wp2
  go_ret3
  exact ⟨rfl, rfl⟩
set_option maxHeartbeats 800000 in
set_option maxRecDepth 100000 in
theorem rh_nought (s : ByteArray) (w : World) (h0 : 1 < s.size) (h8 : (s[0]).toNat ≤ 8) (h1 : 0 < (s[0]).toNat) (hz : s[1] = 0) : HdR s w 0 0 3 := by
  have c1 : ¬ (s.size : Int) = 0 := by omega
  have c1' : ((s.size : Int) == 0) = false := by rw [beq_eq_false_iff_ne]; exact c1
  have hb := (s[0]).toNat_lt
  have h8' : ((s[0]).toNat : Int) ≤ 8 := by omega
  have h1' : (0 : Int) < ((s[0]).toNat : Int) := by omega
  have h0' : (1 : Int) < (s.size : Int) := by omega
  have hz2 : ((s[1]).toNat : Int) = 0 := by rw [hz]; rfl
  have hz' : (((s[1]).toNat : Int) == 0) = true := by rw [hz]; rfl
  unfold HdR
  go_enter Tryd.func36, Tryd.ntmps36
  go_wp2
  go_ret3
  exact ⟨rfl, rfl⟩
set_option maxHeartbeats 800000 in
set_option maxRecDepth 100000 in
theorem rh_short1 (s : ByteArray) (w : World) (hp : 0 < s.size) (h0 : s.size ≤ 1) (h8 : (s[0]).toNat ≤ 8) (h1 : 0 < (s[0]).toNat) : HdR s w 0 0 2 := by
  have c1 : ¬ (s.size : Int) = 0 := by omega
  have c1' : ((s.size : Int) == 0) = false := by rw [beq_eq_false_iff_ne]; exact c1
  have hb := (s[0]).toNat_lt
  have h8' : ((s[0]).toNat : Int) ≤ 8 := by omega
  have h1' : (0 : Int) < ((s[0]).toNat : Int) := by omega
  have h0' : (s.size : Int) ≤ 1 := by omega
  have h0'' : (s.size : Int) ≤ ((s[0]).toNat : Int) := by omega
  have h0''' : s.size ≤ (s[0]).toNat := by omega
  unfold HdR
  go_enter Tryd.func36, Tryd.ntmps36
  go_wp2
  go_ret3
  exact ⟨rfl, rfl⟩
set_option maxHeartbeats 800000 in
set_option maxRecDepth 100000 in
theorem rh_short (s : ByteArray) (w : World) (h0 : 1 < s.size) (h8 : (s[0]).toNat ≤ 8) (h1 : 0 < (s[0]).toNat) (hz : s[1] ≠ 0) (hl : s.size ≤ (s[0]).toNat) : HdR s w 0 0 2 := by
  have hp : 0 < s.size := by omega
  have c1 : ¬ (s.size : Int) = 0 := by omega
  have c1' : ((s.size : Int) == 0) = false := by rw [beq_eq_false_iff_ne]; exact c1
  have hb := (s[0]).toNat_lt
  have h8' : ((s[0]).toNat : Int) ≤ 8 := by omega
  have h1' : (0 : Int) < ((s[0]).toNat : Int) := by omega
  have h0' : (1 : Int) < (s.size : Int) := by omega
  have h0'' : (s.size : Int) ≤ ((s[0]).toNat : Int) := by omega
  have hz' : (((s[1]).toNat : Int) == 0) = false := by
    rw [beq_eq_false_iff_ne]; intro e; exact hz (UInt8.toNat.inj (by simpa using e))
  unfold HdR
  go_enter Tryd.func36, Tryd.ntmps36
  go_wp2
  go_ret3
  exact ⟨rfl, rfl⟩
set_option maxHeartbeats 800000 in
set_option maxRecDepth 100000 in
theorem rh_high (s : ByteArray) (w : World) (h0 : 8 < s.size) (h8 : (s[0]).toNat = 8) (hz : 127 < (s[1]).toNat) (hs : s.size ≤ 140737488351232) : HdR s w 0 0 3 := by
  have hw : wrap64 ((s.size : Int) - 1) = (s.size : Int) - 1 := by unfold wrap64; omega
  have hp : 0 < s.size := by omega
  have c1 : ¬ (s.size : Int) = 0 := by omega
  have c1' : ((s.size : Int) == 0) = false := by rw [beq_eq_false_iff_ne]; exact c1
  have hb := (s[0]).toNat_lt
  have hb1 := (s[1]).toNat_lt
  have h0' : (8 : Int) < (s.size : Int) := by omega
  have h1' : (1 : Int) < (s.size : Int) := by omega
  have hz2 : (127 : Int) < ((s[1]).toNat : Int) := by omega
  have hz' : (((s[1]).toNat : Int) == 0) = false := by rw [beq_eq_false_iff_ne]; omega
  unfold HdR
  go_enter Tryd.func36, Tryd.ntmps36
  go_wp2
  go_ret3
  exact ⟨rfl, rfl⟩
set_option maxHeartbeats 800000 in
set_option maxRecDepth 100000 in
theorem rh_zero (s : ByteArray) (w : World) (h0 : 0 < s.size) (h8 : (s[0]).toNat = 0) (hs : s.size ≤ 140737488351232) : HdR s w 0 1 0 := by
  have hw : wrap64 ((s.size : Int) - 1) = (s.size : Int) - 1 := by unfold wrap64; omega
  have hne : ¬ s = ByteArray.empty := by rintro rfl; simp at h0
  have c1 : ¬ (s.size : Int) = 0 := by omega
  have c1' : ((s.size : Int) == 0) = false := by rw [beq_eq_false_iff_ne]; exact c1
  have h0' : (0 : Int) < (s.size : Int) := by omega
  unfold HdR
  go_enter Tryd.func36, Tryd.ntmps36
  go_wp2
  go_loop [6, 7] (fun x i => x = .int .i64 0 ∧ i = .int .i64 1) (fun _ _ => 0)
  case atStart => exact ⟨rfl, rfl⟩
  case round =>
    obtain ⟨rfl, rfl⟩ := hrel
    go_wp2
    go_ret3
    exact ⟨rfl, rfl⟩
set_option maxHeartbeats 800000 in
set_option maxRecDepth 100000 in
theorem rh_good (s : ByteArray) (w : World) (n : Nat) (h0 : n < s.size) (hn : (s[0]).toNat = n) (h1 : 0 < n) (h8 : n ≤ 8) (hz : s[1] ≠ 0) (hh : n = 8 → (s[1]).toNat ≤ 127) (hs : s.size ≤ 140737488351232) :
    HdR s w (val (((bl s).drop 1).take n)) (n + 1) 0 := by
  have hw : wrap64 ((s.size : Int) - 1) = (s.size : Int) - 1 := by unfold wrap64; omega
  have hp : 0 < s.size := by omega
  have c1 : ¬ (s.size : Int) = 0 := by omega
  have c1' : ((s.size : Int) == 0) = false := by rw [beq_eq_false_iff_ne]; exact c1
  have hb1 := (s[1]).toNat_lt
  have h0' : (n : Int) < (s.size : Int) := by omega
  have h1' : (1 : Int) < (s.size : Int) := by omega
  have h1'' : (0 : Int) < (n : Int) := by omega
  have h8' : (n : Int) ≤ 8 := by omega
  have hz' : (((s[1]).toNat : Int) == 0) = false := by
    rw [beq_eq_false_iff_ne]; intro e; exact hz (UInt8.toNat.inj (by simpa using e))
  unfold HdR
  have hn8 : (¬ (n : Int) = 8) ∨ ((n : Int) = 8 ∧ ((s[1]).toNat : Int) ≤ 127) := by
    by_cases e : n = 8
    · exact .inr ⟨by omega, by have := hh e; omega⟩
    · exact .inl (by omega)
  clear hh
  rcases hn8 with hn8 | ⟨hn8, hn9⟩
  all_goals
    go_enter Tryd.func36, Tryd.ntmps36
    go_wp2
    go_loop [6, 7] (fun x i => ∃ k : Nat, k ≤ n ∧ i = .int .i64 (1 + k : Nat) ∧ x = .int .i64 (val (((bl s).drop 1).take k))) (fun _ i => n + 1 - (intOf i).toNat)
    case atStart => exact ⟨0, Nat.zero_le _, rfl, rfl⟩
    case round =>
      obtain ⟨k, hk, rfl, rfl⟩ := hrel
      by_cases hlt : k < n
      · have hk1 : 1 + k < s.size := by omega
        have hv3 := val_bd ((bl s).drop 1) k (by rw [bl_tail (by omega), List.headD_cons]; first | exact .inl (by omega) | exact .inr ⟨by omega, by omega⟩)
        go_wp2
        go_round
        case rel =>
          refine ⟨k + 1, by omega, by go_num, ?_⟩
          have e := rh_step _ (s[1 + k]) hv3
          have e2 := val_take_succ ((bl s).drop 1) k (by rw [List.length_drop, bl_len]; omega)
          have e3 : ((bl s).drop 1)[k]'(by rw [List.length_drop, bl_len]; omega) = s[1 + k] := by rw [List.getElem_drop]; rfl
          rw [e2, e3, ← e]
          simp
        case measure => simp [intOf]; omega
      · obtain rfl : k = n := by omega
        go_wp2
        go_ret3
        exact ⟨by simp <;> omega, rfl⟩
set_option maxHeartbeats 800000 in
theorem C_head (s : ByteArray) (w : World) (hs : s.size ≤ 140737488351232) : HdR s w (hd (bl s)).1 (hd (bl s)).2.1 (hd (bl s)).2.2 := by
  have hlen := bl_len s
  by_cases h0 : s.size = 0
  · have e : bl s = [] := List.eq_nil_of_length_eq_zero (by omega)
    rw [e]; exact rh_nil s w h0
  · have hp : 0 < s.size := by omega
    rw [bl_cons hp, hd_cons]
    by_cases h8 : 8 < (s[0]).toNat
    · rw [if_pos h8]; exact rh_great s w hp h8
    · rw [if_neg h8]
      by_cases h1 : 0 < (s[0]).toNat
      · by_cases hs1 : 1 < s.size
        · have ht := bl_tail hs1
          by_cases hz : s[1] = 0
          · rw [if_pos ⟨h1, by rw [ht, hz]; rfl⟩]; exact rh_nought s w hs1 (by omega) h1 hz
          · rw [if_neg (by rw [ht]; rintro ⟨_, k⟩; exact hz (by simpa using k))]
            by_cases hl : s.size ≤ (s[0]).toNat
            · rw [if_pos (by rw [List.length_drop]; omega)]; exact rh_short s w hs1 (by omega) h1 hz hl
            · rw [if_neg (by rw [List.length_drop]; omega)]
              by_cases hh : (s[0]).toNat = 8 ∧ 127 < (s[1]).toNat
              · rw [if_pos ⟨hh.1, by rw [ht]; simp; omega⟩]; exact rh_high s w (by omega) hh.1 hh.2 hs
              · rw [if_neg (by rw [ht]; rintro ⟨k1, k2⟩; simp at k2; exact hh ⟨k1, by omega⟩)]
                exact rh_good s w _ (by omega) rfl h1 (by omega) hz (fun e => by omega) hs
        · have ht : (bl s).drop 1 = [] := List.drop_eq_nil_of_le (by omega)
          rw [if_neg (by rw [ht]; simp), if_pos (by rw [ht]; simpa using h1)]
          exact rh_short1 s w hp (by omega) (by omega) h1
      · have hz : (s[0]).toNat = 0 := by omega
        rw [hz, if_neg (by simp), if_neg (by omega), if_neg (by omega)]
        exact rh_zero s w hp hz hs
end Go.Proofs.YtjcboohlgmfneaaDoor.Cod
