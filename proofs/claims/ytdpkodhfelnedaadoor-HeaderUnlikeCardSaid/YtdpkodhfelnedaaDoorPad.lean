/- digest.pad. Contract by what it means. -/
import Derived.Test.YtdpkodhfelnedaaDoorMix
import Derived.Test.YtdpkodhfelnedaaDoorRef
import Derived.Test.YtdpkodhfelnedaaDoorShelf
namespace Go.Proofs.YtdpkodhfelnedaaDoor.Cod
open Go.RowKit
theorem C_rep0 (c : Nat) (hc : c ≤ 64) (w : World) : Calls Tryd.prog 40 #[.string ⟨#[0]⟩, .int .i64 c] w fun e w' => e = .returned (.string (S (List.replicate c 0))) ∧ Below w.heap.size w w' := by
  have h := Tryd.strings_Repeat ⟨#[0]⟩ c w (by omega) (by show 1 * c ≤ _; omega)
  have e : Lib.repeatL [0] c = List.replicate c (0 : UInt8) := by have := Lib.repeatL_replicate 0 1 c; simpa using this
  exact h.mono fun e' w' ⟨h1, h2⟩ => ⟨by rw [h1, e]; rfl, h2⟩
theorem be8_len (n : Nat) : (be8 n).length = 8 := by simp [be8]
theorem be8_take (n j : Nat) (hj : j < 8) : (be8 n).take (7 - j + 1) = (be8 n).take (7 - j) ++ [UInt8.ofNat (n / 256 ^ j % 256)] := by
  have h : (be8 n)[7 - j]? = some (UInt8.ofNat (n / 256 ^ j % 256)) := by
    unfold be8
    rw [List.getElem?_map, List.getElem?_range (by omega)]
    simp only [Option.map_some]
    rw [show 7 - (7 - j) = j by omega]
  rw [List.take_add_one, h]; rfl
def PadRel (w : World) (P : List UInt8) (n : Nat) (s i : Value) (wr : World) : Prop :=
  ∃ (j : Nat) (t : ByteArray), j ≤ 8 ∧ i = .int .i64 ((j : Int) - 1) ∧ s = .string t ∧ bl t = P ++ (be8 (n * 8)).take (8 - j) ∧ Below w.heap.size w wr
theorem byte_u64 (n j : Nat) : ((n : Int) * 8 / 2 ^ (8 * j) % 256).toNat = n * 8 / 256 ^ j % 256 := by
  have e2 : (2 : Int) ^ (8 * j) = ((256 ^ j : Nat) : Int) := by rw [Int.pow_mul]; simp
  rw [e2]
  have : (n : Int) * 8 / ((256 ^ j : Nat) : Int) % 256 = ((n * 8 / 256 ^ j % 256 : Nat) : Int) := by simp
  rw [this, Int.toNat_natCast]
set_option maxHeartbeats 2000000 in
set_option maxRecDepth 100000 in
theorem C_pad (s : ByteArray) (hs : s.size ≤ 140737488350000) (w : World) : Calls Tryd.prog 33 #[.string s] w fun e w' => e = .returned (.string (S (padL (bl s)))) ∧ Below w.heap.size w w' := by
  have hl := bl_len s
  obtain ⟨c, ec⟩ : ∃ c, c = (119 - s.size % 64) % 64 := ⟨_, rfl⟩
  have hc64 : c ≤ 64 := by omega
  have hc : ((119 : Int) - (s.size : Int) % 64) % 64 = (c : Int) := by omega
  have hcw : IntKind.i64.wrap ((119 : Int) - (s.size : Int) % 64) = (119 : Int) - (s.size : Int) % 64 := IntWalk.i64_in _ (by omega)
  have hct : ((119 : Int) - (s.size : Int) % 64).tmod 64 = (c : Int) := by rw [Int.tmod_eq_emod_of_nonneg (by omega)]; exact hc
  have hn0 : (0 : Int) ≤ (s.size : Int) := by omega
  have h119 : (0 : Int) ≤ (119 : Int) - (s.size : Int) % 64 := by omega
  have hpad : padL (bl s) = (bl s ++ 128 :: List.replicate c 0) ++ be8 (s.size * 8) := by unfold padL; rw [hl, ← ec]
  have HP := Lib.hid hpad
  clear hpad ec
  obtain ⟨X, eX⟩ : ∃ X, X = S (List.replicate c 0) := ⟨_, rfl⟩
  have hR := fun v => C_rep0 c hc64 v
  have hX : X.size ≤ 64 := by rw [eX, S_size, List.length_replicate]; exact hc64
  rw [← eX] at hR
  have EX := Lib.hid eX
  clear eX
  have hconv := conv1
  have hu64 : IntKind.u64.wrap (s.size : Int) = (s.size : Int) := wrapu64 _ (by omega)
  have hu8 : IntKind.u64.wrap ((s.size : Int) * 8) = ((s.size * 8 : Nat) : Int) := by
    have := wrapu64 (s.size * 8) (by omega)
    rw [← this]; congr 1
  go_enter Tryd.func33, Tryd.ntmps33
  go_wp2_with (go_at_call 40; ((with_reducible refine (hR _).mono ?_); rintro e w1 ⟨rfl, f1⟩))
  go_loopw [0, 4] (fun s' i wr => PadRel w (bl s ++ 128 :: List.replicate c 0) s.size s' i wr) (fun _ i _ => (intOf i + 1).toNat)
  case atStart => exact ⟨8, _, by omega, rfl, rfl, by rw [bl_append, bl_append, EX.out, bl_S]; simp [bl], f1⟩
  case round =>
    obtain ⟨j, t, hj, rfl, rfl, ht, hb⟩ := hrel
    have hts : t.size ≤ s.size + 73 := by
      have := congrArg List.length ht
      rw [bl_len, List.length_append, List.length_append, List.length_cons, List.length_replicate, List.length_take, hl] at this
      omega
    have HT := Lib.hid ht
    clear ht
    rcases j with _ | j
    · go_wp2
      go_ret
      exact ⟨ret_str (eq_S (by rw [HT.out, HP.out, List.take_of_length_le (by rw [be8_len]; omega)])), hb⟩
    · rw [show ((j + 1 : Nat) : Int) - 1 = (j : Int) by omega]
      have j0 : (0 : Int) ≤ (j : Int) := by omega
      have j8 : (j : Int) < 8 := by omega
      go_wp2
      refine ⟨⟨j, _, by omega, rfl, rfl, ?_, hb.alloc hb.size _⟩, by simp [intOf]⟩
      rw [bl_append, HT.out, byte_u64, show 8 - j = 7 - j + 1 by omega, be8_take _ j (by omega), show 8 - (j + 1) = 7 - j by omega]
      simp [bl]
end Go.Proofs.YtdpkodhfelnedaaDoor.Cod
