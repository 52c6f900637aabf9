/- codec.In: contracts by what each call means. -/
import Derived.Test.YtdpkodhfelnedaaDoorOut
namespace Go.Proofs.YtdpkodhfelnedaaDoor.Cod
open Go.RowKit
def bl (s : ByteArray) : List UInt8 := s.data.toList
theorem bl_len (s : ByteArray) : (bl s).length = s.size := by show s.data.toList.length = s.data.size; simp
/-- the string of bytes -/
def S (l : List UInt8) : ByteArray := ⟨l.toArray⟩
theorem bl_S (l : List UInt8) : bl (S l) = l := by simp [bl, S]
theorem S_bl (s : ByteArray) : S (bl s) = s := by cases s; simp [bl, S]
theorem ret_str {s t : ByteArray} (h : s = t) : Ending.returned (.string s) = .returned (.string t) := by rw [h]
theorem S_size (l : List UInt8) : (S l).size = l.length := by simp [S, ByteArray.size]
theorem bl_inj {s t : ByteArray} (h : bl s = bl t) : s = t := by rw [← S_bl s, h, S_bl]
theorem S_inj {l m : List UInt8} (h : S l = S m) : l = m := by rw [← bl_S l, h, bl_S]
theorem eq_S {s : ByteArray} {l : List UInt8} (h : bl s = l) : s = S l := by rw [← h, S_bl]
theorem S_append (l m : List UInt8) : S l ++ S m = S (l ++ m) := by apply bl_inj; rw [bl_S]; simp [bl, ByteArray.data_append, S]
theorem bl_get (s : ByteArray) (i : Nat) (h : i < s.size) : (bl s)[i]'(by rw [bl_len]; exact h) = s[i] := rfl
theorem toList_nil {s : ByteArray} (h : s.size = 0) : (s.toList == ([] : List UInt8)) = true := by
  rw [ByteArray.toList_eq, beq_iff_eq]
  exact List.eq_nil_of_length_eq_zero (by rw [← h]; exact bl_len s)
theorem toList_cons {s : ByteArray} (h : 0 < s.size) : (s.toList == ([] : List UInt8)) = false := by
  rw [ByteArray.toList_eq, beq_eq_false_iff_ne]
  intro e
  have := bl_len s
  rw [bl, e] at this
  simp at this
  omega
theorem bl_cons {s : ByteArray} (h : 0 < s.size) : bl s = s[0] :: (bl s).drop 1 := by
  have := List.drop_eq_getElem_cons (l := bl s) (i := 0) (by rw [bl_len]; exact h)
  rw [List.drop_zero] at this
  exact this
theorem bl_cons2 {s : ByteArray} (h : 1 < s.size) : bl s = s[0] :: s[1] :: (bl s).drop 2 := by
  rw [bl_cons (by omega)]
  have := List.drop_eq_getElem_cons (l := bl s) (i := 1) (by rw [bl_len]; exact h)
  rw [this]; rfl
/-- what number answers -/
def NumR (s : ByteArray) (w : World) (x k e : Nat) : Prop := Calls Tryd.prog 36 #[.string s] w fun f w' => f = .returned (.tuple #[.int .i64 x, .int .i64 k, .int .i64 e]) ∧ w = w'
set_option maxHeartbeats 800000 in
set_option maxRecDepth 100000 in
theorem num_nil (s : ByteArray) (w : World) (h0 : s.size = 0) : NumR s w 0 0 2 := by
  have c1 := toList_nil h0
  clear h0
  unfold NumR
  go_enter Tryd.func36, Tryd.ntmps36
  go_wp2
  go_ret3
  exact ⟨rfl, rfl⟩
set_option maxHeartbeats 800000 in
set_option maxRecDepth 100000 in
theorem num_great (s : ByteArray) (w : World) (h0 : 0 < s.size) (h8 : 8 < (s[0]).toNat) : NumR s w 0 0 3 := by
  have c1 := toList_cons h0
  have hb := (s[0]).toNat_lt
  have h8' : (8 : Int) < ((s[0]).toNat : Int) := by omega
  unfold NumR
  go_enter Tryd.func36, Tryd.ntmps36
  go_wp2
  go_ret3
  exact ⟨rfl, rfl⟩
set_option maxHeartbeats 800000 in
set_option maxRecDepth 100000 in
theorem num_nought (s : ByteArray) (w : World) (h0 : 1 < s.size) (h8 : (s[0]).toNat ≤ 8) (h1 : 0 < (s[0]).toNat) (hz : s[1] = 0) : NumR s w 0 0 3 := by
  have c1 := toList_cons (s := s) (by omega)
  have hb := (s[0]).toNat_lt
  have h8' : ((s[0]).toNat : Int) ≤ 8 := by omega
  have h1' : (0 : Int) < ((s[0]).toNat : Int) := by omega
  have h0' : (1 : Int) < (s.size : Int) := by omega
  have hz2 : ((s[1]).toNat : Int) = 0 := by rw [hz]; rfl
  have hz' : (((s[1]).toNat : Int) == 0) = true := by rw [hz]; rfl
  unfold NumR
  go_enter Tryd.func36, Tryd.ntmps36
  go_wp2
  go_ret3
  exact ⟨rfl, rfl⟩
set_option maxHeartbeats 800000 in
set_option maxRecDepth 100000 in
theorem num_short1 (s : ByteArray) (w : World) (hp : 0 < s.size) (h0 : s.size ≤ 1) (h8 : (s[0]).toNat ≤ 8) (h1 : 0 < (s[0]).toNat) : NumR s w 0 0 2 := by
  have c1 := toList_cons hp
  have hb := (s[0]).toNat_lt
  have h8' : ((s[0]).toNat : Int) ≤ 8 := by omega
  have h1' : (0 : Int) < ((s[0]).toNat : Int) := by omega
  have h0' : (s.size : Int) ≤ 1 := by omega
  have h0'' : (s.size : Int) ≤ ((s[0]).toNat : Int) := by omega
  have h0''' : s.size ≤ (s[0]).toNat := by omega
  unfold NumR
  go_enter Tryd.func36, Tryd.ntmps36
  go_wp2
  go_ret3
  exact ⟨rfl, rfl⟩
set_option maxHeartbeats 800000 in
set_option maxRecDepth 100000 in
theorem num_short (s : ByteArray) (w : World) (h0 : 1 < s.size) (h8 : (s[0]).toNat ≤ 8) (h1 : 0 < (s[0]).toNat) (hz : s[1] ≠ 0) (hl : s.size ≤ (s[0]).toNat) : NumR s w 0 0 2 := by
  have hp : 0 < s.size := by omega
  have c1 := toList_cons hp
  have hb := (s[0]).toNat_lt
  have h8' : ((s[0]).toNat : Int) ≤ 8 := by omega
  have h1' : (0 : Int) < ((s[0]).toNat : Int) := by omega
  have h0' : (1 : Int) < (s.size : Int) := by omega
  have h0'' : (s.size : Int) ≤ ((s[0]).toNat : Int) := by omega
  have hz' : (((s[1]).toNat : Int) == 0) = false := by
    rw [beq_eq_false_iff_ne]; intro e; exact hz (UInt8.toNat.inj (by simpa using e))
  unfold NumR
  go_enter Tryd.func36, Tryd.ntmps36
  go_wp2
  go_ret3
  exact ⟨rfl, rfl⟩
set_option maxHeartbeats 800000 in
set_option maxRecDepth 100000 in
theorem num_high (s : ByteArray) (w : World) (h0 : 8 < s.size) (h8 : (s[0]).toNat = 8) (hz : 127 < (s[1]).toNat) : NumR s w 0 0 3 := by
  have hp : 0 < s.size := by omega
  have c1 := toList_cons hp
  have hb := (s[0]).toNat_lt
  have hb1 := (s[1]).toNat_lt
  have h0' : (8 : Int) < (s.size : Int) := by omega
  have h1' : (1 : Int) < (s.size : Int) := by omega
  have hz2 : (127 : Int) < ((s[1]).toNat : Int) := by omega
  have hz' : (((s[1]).toNat : Int) == 0) = false := by rw [beq_eq_false_iff_ne]; omega
  unfold NumR
  go_enter Tryd.func36, Tryd.ntmps36
  go_wp2
  go_ret3
  exact ⟨rfl, rfl⟩
theorem or_byte (a c : Nat) (h : c < 256) : (a * 256) ||| c = a * 256 + c := by
  have := Nat.shiftLeft_add_eq_or_of_lt (b := c) (i := 8) (by simpa using h) a
  rw [Nat.shiftLeft_eq] at this
  exact this.symm
theorem or_i64 (a b : Nat) (ha : a < 9223372036854775808) (hb : b < 9223372036854775808) : bits .or .i64 (a : Int) (b : Int) = ((a ||| b : Nat) : Int) := by
  have hx : a ||| b < 2 ^ 63 := Nat.or_lt_two_pow (by omega) (by omega)
  have h1 : (BitVec.ofInt 64 (a : Int)).toNat = a := by
    rw [BitVec.ofInt_natCast, BitVec.toNat_ofNat]; exact Nat.mod_eq_of_lt (by omega)
  have h2 : (BitVec.ofInt 64 (b : Int)).toNat = b := by
    rw [BitVec.ofInt_natCast, BitVec.toNat_ofNat]; exact Nat.mod_eq_of_lt (by omega)
  show IntKind.i64.wrap ((BitVec.ofInt 64 (a : Int) ||| BitVec.ofInt 64 (b : Int)).toNat : Int) = _
  rw [BitVec.toNat_or, h1, h2]
  exact IntWalk.i64_in _ (by omega)
theorem num_step (v : Nat) (c : UInt8) (hv : v < 36028797018963968) : bits BinOp.or IntKind.i64 (wrap64 ((v : Int) * 256)) (wrap64 (c.toNat : Int)) = ((256 * v + c.toNat : Nat) : Int) := by
  have hc := c.toNat_lt
  have e1 : wrap64 ((v : Int) * 256) = ((v * 256 : Nat) : Int) := by unfold wrap64; omega
  have e2 : wrap64 (c.toNat : Int) = (c.toNat : Int) := by unfold wrap64; omega
  rw [e1, e2, or_i64 _ _ (by omega) (by omega), or_byte _ _ (by omega)]
  omega
theorem val_take_succ (l : List UInt8) (k : Nat) (h : k < l.length) : val (l.take (k + 1)) = 256 * val (l.take k) + (l[k]).toNat := by
  rw [List.take_add_one, List.getElem?_eq_getElem h, ← val_snoc]; rfl
set_option maxHeartbeats 800000 in
set_option maxRecDepth 100000 in
theorem num_zero (s : ByteArray) (w : World) (h0 : 0 < s.size) (h8 : (s[0]).toNat = 0) : NumR s w 0 1 0 := by
  have hne : ¬ s = ByteArray.empty := by rintro rfl; simp at h0
  have c1 := toList_cons h0
  have h0' : (0 : Int) < (s.size : Int) := by omega
  unfold NumR
  go_enter Tryd.func36, Tryd.ntmps36
  go_wp2
  go_loop [6, 7, 42] (fun x _ i => x = .int .i64 0 ∧ i = .int .i64 0) (fun _ _ _ => 0)
  case atStart => exact ⟨rfl, rfl⟩
  case round =>
    obtain ⟨rfl, rfl⟩ := hrel
    go_wp2
    go_ret3
    exact ⟨rfl, rfl⟩
theorem val_bd (l : List UInt8) (k : Nat) (h : k ≤ 6 ∨ (k ≤ 7 ∧ (l.headD 0).toNat ≤ 127)) : val (l.take k) < 36028797018963968 := by
  by_cases h6 : k ≤ 6
  · have h1 := val_lt (l.take k)
    have h2 : 256 ^ (l.take k).length ≤ 256 ^ 6 := Nat.pow_le_pow_right (by omega) (by rw [List.length_take]; omega)
    omega
  · obtain ⟨h7, hb⟩ : k ≤ 7 ∧ (l.headD 0).toNat ≤ 127 := by rcases h with h | h; exact absurd h h6; exact h
    obtain rfl : k = 7 := by omega
    rcases l with _ | ⟨c, l⟩
    · simp [val]
    · simp only [List.headD_cons] at hb
      rw [List.take_succ_cons, val_cons]
      have h1 := val_lt (l.take 6)
      have hl : (l.take 6).length ≤ 6 := by rw [List.length_take]; omega
      have h2 : 256 ^ (l.take 6).length ≤ 256 ^ 6 := Nat.pow_le_pow_right (by omega) hl
      have h3 : c.toNat * 256 ^ (l.take 6).length ≤ 127 * 256 ^ 6 := Nat.mul_le_mul hb h2
      omega
theorem bl_tail {s : ByteArray} (h : 1 < s.size) : (bl s).drop 1 = s[1] :: (bl s).drop 2 := by
  have := List.drop_eq_getElem_cons (l := bl s) (i := 1) (by rw [bl_len]; exact h)
  exact this
set_option maxHeartbeats 800000 in
set_option maxRecDepth 100000 in
theorem num_good (s : ByteArray) (w : World) (n : Nat) (h0 : n < s.size) (hn : (s[0]).toNat = n) (h1 : 0 < n) (h8 : n ≤ 8) (hz : s[1] ≠ 0) (hh : n = 8 → (s[1]).toNat ≤ 127) (hs : s.size ≤ 140737488351232) :
    NumR s w (val (((bl s).drop 1).take n)) (n + 1) 0 := by
  have hp : 0 < s.size := by omega
  have c1 := toList_cons hp
  have hb1 := (s[1]).toNat_lt
  have h0' : (n : Int) < (s.size : Int) := by omega
  have h1' : (1 : Int) < (s.size : Int) := by omega
  have h1'' : (0 : Int) < (n : Int) := by omega
  have h8' : (n : Int) ≤ 8 := by omega
  have hz' : (((s[1]).toNat : Int) == 0) = false := by
    rw [beq_eq_false_iff_ne]; intro e; exact hz (UInt8.toNat.inj (by simpa using e))
  unfold NumR
  have hn8 : (¬ (n : Int) = 8) ∨ ((n : Int) = 8 ∧ ((s[1]).toNat : Int) ≤ 127) := by
    by_cases e : n = 8
    · exact .inr ⟨by omega, by have := hh e; omega⟩
    · exact .inl (by omega)
  clear hh
  rcases hn8 with hn8 | ⟨hn8, hn9⟩
  all_goals
    go_enter Tryd.func36, Tryd.ntmps36
    go_wp2
    go_loop [6, 7, 42] (fun x _ i => ∃ k : Nat, k ≤ n ∧ i = .int .i64 k ∧ x = .int .i64 (val (((bl s).drop 1).take k))) (fun _ _ i => n - (intOf i).toNat)
    case atStart => exact ⟨0, Nat.zero_le _, rfl, rfl⟩
    case round =>
      obtain ⟨k, hk, rfl, rfl⟩ := hrel
      by_cases hlt : k < n
      · have hk1 : 1 + k < s.size := by omega
        have hv3 := val_bd ((bl s).drop 1) k (by rw [bl_tail (by omega), List.headD_cons]; first | exact .inl (by omega) | exact .inr ⟨by omega, by omega⟩)
        go_wp2
        go_round
        case rel =>
          refine ⟨k + 1, by omega, by go_num, ?_⟩
          have e := num_step _ (s[1 + k]) hv3
          have e2 := val_take_succ ((bl s).drop 1) k (by rw [List.length_drop, bl_len]; omega)
          have e3 : ((bl s).drop 1)[k]'(by rw [List.length_drop, bl_len]; omega) = s[1 + k] := by rw [List.getElem_drop]; rfl
          rw [e2, e3, ← e]
          simp
        case measure => simp [intOf]; omega
      · obtain rfl : k = n := by omega
        go_wp2
        go_ret3
        exact ⟨by simp <;> omega, rfl⟩
set_option maxHeartbeats 800000 in
theorem C_number (s : ByteArray) (w : World) (hs : s.size ≤ 140737488351232) : NumR s w (hd (bl s)).1 (hd (bl s)).2.1 (hd (bl s)).2.2 := by
  have hlen := bl_len s
  by_cases h0 : s.size = 0
  · have e : bl s = [] := List.eq_nil_of_length_eq_zero (by omega)
    rw [e]; exact num_nil s w h0
  · have hp : 0 < s.size := by omega
    rw [bl_cons hp, hd_cons]
    by_cases h8 : 8 < (s[0]).toNat
    · rw [if_pos h8]; exact num_great s w hp h8
    · rw [if_neg h8]
      by_cases h1 : 0 < (s[0]).toNat
      · by_cases hs1 : 1 < s.size
        · have ht := bl_tail hs1
          by_cases hz : s[1] = 0
          · rw [if_pos ⟨h1, by rw [ht, hz]; rfl⟩]; exact num_nought s w hs1 (by omega) h1 hz
          · rw [if_neg (by rw [ht]; rintro ⟨_, k⟩; exact hz (by simpa using k))]
            by_cases hl : s.size ≤ (s[0]).toNat
            · rw [if_pos (by rw [List.length_drop]; omega)]; exact num_short s w hs1 (by omega) h1 hz hl
            · rw [if_neg (by rw [List.length_drop]; omega)]
              by_cases hh : (s[0]).toNat = 8 ∧ 127 < (s[1]).toNat
              · rw [if_pos ⟨hh.1, by rw [ht]; simp; omega⟩]; exact num_high s w (by omega) hh.1 hh.2
              · rw [if_neg (by rw [ht]; rintro ⟨k1, k2⟩; simp at k2; exact hh ⟨k1, by omega⟩)]
                exact num_good s w _ (by omega) rfl h1 (by omega) hz (fun e => by omega) hs
        · have ht : (bl s).drop 1 = [] := List.drop_eq_nil_of_le (by omega)
          rw [if_neg (by rw [ht]; simp), if_pos (by rw [ht]; simpa using h1)]
          exact num_short1 s w hp (by omega) (by omega) h1
      · have hz : (s[0]).toNat = 0 := by omega
        rw [hz, if_neg (by simp), if_neg (by omega), if_neg (by omega)]
        exact num_zero s w hp hz
end Go.Proofs.YtdpkodhfelnedaaDoor.Cod
