/- codec.In: contracts by what each call means. -/
import Derived.Test.YtakefjdckacgpaaOut
namespace Go.Proofs.Ytakefjdckacgpaa.Cod
open Go.RowKit
def bl (s : ByteArray) : List UInt8 := s.data.toList
theorem bl_len (s : ByteArray) : (bl s).length = s.size := by show s.data.toList.length = s.data.size; simp
/-- the string of bytes -/
def S (l : List UInt8) : ByteArray := ⟨l.toArray⟩
theorem bl_S (l : List UInt8) : bl (S l) = l := by simp [bl, S]
theorem S_bl (s : ByteArray) : S (bl s) = s := by cases s; simp [bl, S]
theorem ret_str {s t : ByteArray} (h : s = t) : Ending.returned (.string s) = .returned (.string t) := by rw [h]
theorem S_size (l : List UInt8) : (S l).size = l.length := by simp [S, ByteArray.size]
theorem bl_inj {s t : ByteArray} (h : bl s = bl t) : s = t := by rw [← S_bl s, h, S_bl]
theorem S_inj {l m : List UInt8} (h : S l = S m) : l = m := by rw [← bl_S l, h, bl_S]
theorem eq_S {s : ByteArray} {l : List UInt8} (h : bl s = l) : s = S l := by rw [← h, S_bl]
theorem S_append (l m : List UInt8) : S l ++ S m = S (l ++ m) := by apply bl_inj; rw [bl_S]; simp [bl, ByteArray.data_append, S]
theorem bl_get (s : ByteArray) (i : Nat) (h : i < s.size) : (bl s)[i]'(by rw [bl_len]; exact h) = s[i] := rfl
theorem toList_nil {s : ByteArray} (h : s.size = 0) : (s.toList == ([] : List UInt8)) = true := by
  rw [ByteArray.toList_eq, beq_iff_eq]
  exact List.eq_nil_of_length_eq_zero (by rw [← h]; exact bl_len s)
theorem toList_cons {s : ByteArray} (h : 0 < s.size) : (s.toList == ([] : List UInt8)) = false := by
  rw [ByteArray.toList_eq, beq_eq_false_iff_ne]
  intro e
  have := bl_len s
  rw [bl, e] at this
  simp at this
  omega
theorem bl_cons {s : ByteArray} (h : 0 < s.size) : bl s = s[0] :: (bl s).drop 1 := by
  have := List.drop_eq_getElem_cons (l := bl s) (i := 0) (by rw [bl_len]; exact h)
  rw [List.drop_zero] at this
  exact this
theorem bl_cons2 {s : ByteArray} (h : 1 < s.size) : bl s = s[0] :: s[1] :: (bl s).drop 2 := by
  rw [bl_cons (by omega)]
  have := List.drop_eq_getElem_cons (l := bl s) (i := 1) (by rw [bl_len]; exact h)
  rw [this]; rfl
theorem or_byte (a c : Nat) (h : c < 256) : (a * 256) ||| c = a * 256 + c := by
  have := Nat.shiftLeft_add_eq_or_of_lt (b := c) (i := 8) (by simpa using h) a
  rw [Nat.shiftLeft_eq] at this
  exact this.symm
theorem or_i64 (a b : Nat) (ha : a < 9223372036854775808) (hb : b < 9223372036854775808) : bits .or .i64 (a : Int) (b : Int) = ((a ||| b : Nat) : Int) := by
  have hx : a ||| b < 2 ^ 63 := Nat.or_lt_two_pow (by omega) (by omega)
  have h1 : (BitVec.ofInt 64 (a : Int)).toNat = a := by
    rw [BitVec.ofInt_natCast, BitVec.toNat_ofNat]; exact Nat.mod_eq_of_lt (by omega)
  have h2 : (BitVec.ofInt 64 (b : Int)).toNat = b := by
    rw [BitVec.ofInt_natCast, BitVec.toNat_ofNat]; exact Nat.mod_eq_of_lt (by omega)
  show IntKind.i64.wrap ((BitVec.ofInt 64 (a : Int) ||| BitVec.ofInt 64 (b : Int)).toNat : Int) = _
  rw [BitVec.toNat_or, h1, h2]
  exact IntWalk.i64_in _ (by omega)
theorem num_step (v : Nat) (c : UInt8) (hv : v < 36028797018963968) : bits BinOp.or IntKind.i64 (wrap64 ((v : Int) * 256)) (wrap64 (c.toNat : Int)) = ((256 * v + c.toNat : Nat) : Int) := by
  have hc := c.toNat_lt
  have e1 : wrap64 ((v : Int) * 256) = ((v * 256 : Nat) : Int) := by unfold wrap64; omega
  have e2 : wrap64 (c.toNat : Int) = (c.toNat : Int) := by unfold wrap64; omega
  rw [e1, e2, or_i64 _ _ (by omega) (by omega), or_byte _ _ (by omega)]
  omega
theorem val_take_succ (l : List UInt8) (k : Nat) (h : k < l.length) : val (l.take (k + 1)) = 256 * val (l.take k) + (l[k]).toNat := by
  rw [List.take_add_one, List.getElem?_eq_getElem h, ← val_snoc]; rfl
theorem val_bd (l : List UInt8) (k : Nat) (h : k ≤ 6 ∨ (k ≤ 7 ∧ (l.headD 0).toNat ≤ 127)) : val (l.take k) < 36028797018963968 := by
  by_cases h6 : k ≤ 6
  · have h1 := val_lt (l.take k)
    have h2 : 256 ^ (l.take k).length ≤ 256 ^ 6 := Nat.pow_le_pow_right (by omega) (by rw [List.length_take]; omega)
    omega
  · obtain ⟨h7, hb⟩ : k ≤ 7 ∧ (l.headD 0).toNat ≤ 127 := by rcases h with h | h; exact absurd h h6; exact h
    obtain rfl : k = 7 := by omega
    rcases l with _ | ⟨c, l⟩
    · simp [val]
    · simp only [List.headD_cons] at hb
      rw [List.take_succ_cons, val_cons]
      have h1 := val_lt (l.take 6)
      have hl : (l.take 6).length ≤ 6 := by rw [List.length_take]; omega
      have h2 : 256 ^ (l.take 6).length ≤ 256 ^ 6 := Nat.pow_le_pow_right (by omega) hl
      have h3 : c.toNat * 256 ^ (l.take 6).length ≤ 127 * 256 ^ 6 := Nat.mul_le_mul hb h2
      omega
theorem bl_tail {s : ByteArray} (h : 1 < s.size) : (bl s).drop 1 = s[1] :: (bl s).drop 2 := by
  have := List.drop_eq_getElem_cons (l := bl s) (i := 1) (by rw [bl_len]; exact h)
  exact this
end Go.Proofs.Ytakefjdckacgpaa.Cod
