/- ref07.Key: is it a key? Contract by what it means. -/
import Derived.Test.YtajccobndgechaaNames
import Derived.Laws.Cover1
namespace Go.Proofs.Ytajccobndgechaa.Cod
open Go.RowKit
theorem bytesLess_cmp : ∀ l m : List UInt8, Op.bytesLess l m = decide (Lib.compareBytes l m < 0)
  | [], [] => by simp [Op.bytesLess, Lib.compareBytes]
  | [], _ :: _ => by simp [Op.bytesLess, Lib.compareBytes]
  | _ :: _, [] => by simp [Op.bytesLess, Lib.compareBytes]
  | a :: x, b :: y => by
    unfold Op.bytesLess Lib.compareBytes
    by_cases h : a < b
    · simp [h]
    · by_cases h2 : b < a
      · have : ¬ a = b := fun e => by subst e; exact absurd h2 h
        simp [h, h2, this]
      · have : a = b := by
          have h3 : ¬ a.toNat < b.toNat := h
          have h4 : ¬ b.toNat < a.toNat := h2
          exact UInt8.toNat_inj.1 (by omega)
        subst this
        simp [h, bytesLess_cmp x y]
theorem chunk (s : ByteArray) (a b : Nat) : (s.extract a b).toList = ((bl s).drop a).take (b - a) := by
  rw [ByteArray.toList_eq]
  show (s.extract a b).data.toList = _
  rw [ByteArray.data_extract, Array.toList_extract, List.extract_eq_take_drop]
  rfl
theorem cut32_len : ∀ (n : Nat) (l : List UInt8), (cut32 n l).length = n
  | 0, _ => rfl
  | n + 1, l => by rw [cut32_succ, List.length_cons, cut32_len n]
theorem cut32_get : ∀ (n : Nat) (l : List UInt8) (i : Nat) (h : i < (cut32 n l).length), (cut32 n l)[i] = (l.drop (32 * i)).take 32
  | 0, _, i, h => absurd h (by simp [cut32])
  | n + 1, l, 0, h => by simp [cut32]
  | n + 1, l, i + 1, h => by
    simp only [cut32_succ, List.getElem_cons_succ]
    rw [cut32_get n, List.drop_drop]
    congr 2
    omega
def KeyRel (w : World) (l : List UInt8) (i : Value) (wr : World) : Prop :=
  ∃ j : Nat, i = .int .i64 (32 * (j + 1) : Nat) ∧ j + 1 ≤ l.length / 32 ∧ (∀ m, m < j → Lib.compareBytes ((l.drop (32 * m)).take 32) ((l.drop (32 * (m + 1))).take 32) < 0) ∧ Below w.heap.size w wr
theorem key_true {l : List UInt8} {n : Nat} (h1 : l.length % 32 = 0) (h2 : 1 ≤ l.length / 32) (h3 : l.length / 32 ≤ 5) (hn : n + 1 = l.length / 32)
    (h : ∀ m, m < n → Lib.compareBytes ((l.drop (32 * m)).take 32) ((l.drop (32 * (m + 1))).take 32) < 0) : isKey l = true := by
  unfold isKey
  rw [decide_eq_true ⟨h1, h2, h3⟩, Bool.true_and, rises_get]
  intro i hi
  have hl := cut32_len (l.length / 32) l
  rw [cut32_get, cut32_get]
  exact h i (by omega)
theorem key_false {l : List UInt8} {m : Nat} (hm : m + 1 < l.length / 32) (h : ¬ Lib.compareBytes ((l.drop (32 * m)).take 32) ((l.drop (32 * (m + 1))).take 32) < 0) : isKey l = false := by
  unfold isKey
  rw [Bool.and_eq_false_iff]
  refine .inr ?_
  rw [Bool.eq_false_iff, ne_eq, rises_get]
  intro k
  have hl := cut32_len (l.length / 32) l
  have := k m (by omega)
  rw [cut32_get, cut32_get] at this
  exact h this
theorem key_size {l : List UInt8} (h : ¬ (l.length % 32 = 0 ∧ 1 ≤ l.length / 32 ∧ l.length / 32 ≤ 5)) : isKey l = false := by
  unfold isKey
  rw [decide_eq_false h, Bool.false_and]
set_option maxHeartbeats 800000 in
set_option maxRecDepth 100000 in
theorem C_key (s : ByteArray) (hs : s.size ≤ 140737488351232) (w : World) : Calls Try.prog 84 #[.string s] w fun e w' => e = .returned (.bool (isKey (bl s))) ∧ Below w.heap.size w w' := by
  have hl := bl_len s
  by_cases h0 : s.size = 0
  · rw [key_size (by omega)]
    have k1 : (s.size : Int) = 0 := by omega
    clear hl
    go_enter Try.func84, Try.ntmps84
    go_wp2
    go_ret
    exact ⟨rfl, Below.refl _ _⟩
  have k1 : ¬ (s.size : Int) = 0 := by omega
  have k4 : ((s.size : Int) == 0) = false := by simpa using h0
  by_cases h1 : 160 < s.size
  · rw [key_size (by omega)]
    have k2 : 160 < (s.size : Int) := by omega
    clear hl
    go_enter Try.func84, Try.ntmps84
    go_wp2
    go_ret
    exact ⟨rfl, Below.refl _ _⟩
  have k2 : ¬ 160 < (s.size : Int) := by omega
  by_cases h2 : s.size % 32 = 0
  · have k3 : ¬ 0 < (s.size : Int) % 32 := by omega
    have hkt := @key_true (bl s)
    have hkf := @key_false (bl s)
    generalize isKey (bl s) = r at hkt hkf
    go_enter Try.func84, Try.ntmps84
    go_wp2
    go_loopw [3] (fun i wr => KeyRel w (bl s) i wr) (fun i _ => s.size - (intOf i).toNat)
    case atStart => exact ⟨0, rfl, by rw [bl_len]; omega, fun m hm => absurd hm (by omega), Below.refl _ _⟩
    case round =>
      obtain ⟨j, rfl, hj, hr, hb⟩ := hrel
      by_cases hlt : 32 * (j + 1) < s.size
      · have g1 : ((32 * (j + 1) : Nat) : Int) < (s.size : Int) := by omega
        have g2 : (32 : Int) ≤ ((32 * (j + 1) : Nat) : Int) := by omega
        have g3 : ((32 * (j + 1) : Nat) : Int) + 32 ≤ (s.size : Int) := by omega
        obtain ⟨b, hB⟩ : ∃ b, Op.bytesLess (s.extract (32 * (j + 1) - 32) (32 * (j + 1))).toList (s.extract (32 * (j + 1)) (32 * (j + 1) + 32)).toList = b := ⟨_, rfl⟩
        have hB' := hB
        rw [chunk, chunk, bytesLess_cmp, show 32 * (j + 1) - 32 = 32 * j by omega, show 32 * (j + 1) - 32 * j = 32 by omega, show 32 * (j + 1) + 32 - 32 * (j + 1) = 32 by omega] at hB'
        cases b with
        | true =>
          have hB' := Lib.hid (of_decide_eq_true hB')
          clear hkt hkf
          go_wp2
          go_region
          go_wp2
          refine ⟨⟨j + 1, by simp; omega, by omega, fun m hm => ?_, hb.drew⟩, ?_⟩
          · by_cases e : m = j
            · subst e; exact hB'.out
            · exact hr m (by omega)
          · simp [intOf]; omega
        | false =>
          have hB' := Lib.hid (of_decide_eq_false hB')
          obtain rfl : r = false := hkf (m := j) (by omega) (by have := hB'.out; omega)
          clear hkt hkf
          go_wp2
          go_region
          go_wp2
          go_ret
          exact ⟨rfl, hb.drew⟩
      · obtain rfl : r = true := hkt (n := j) (by omega) (by omega) (by omega) (by omega) hr
        clear hkt hkf
        have g1 : (s.size : Int) ≤ ((32 * (j + 1) : Nat) : Int) := by omega
        go_wp2
        go_ret
        exact ⟨rfl, hb⟩
  · rw [key_size (by omega)]
    have k3 : 0 < (s.size : Int) % 32 := by omega
    clear hl
    go_enter Try.func84, Try.ntmps84
    go_wp2
    go_ret
    exact ⟨rfl, Below.refl _ _⟩
end Go.Proofs.Ytajccobndgechaa.Cod
