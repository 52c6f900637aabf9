-- Written by a program of this session (wip/print): no text of the kit's print.sh.
import Derived.Test.YtclmdidgioggdaaQx0
namespace Go.Proofs.Ytclmdidgioggdaa.Q
open Go.RowKit Go.Proofs.YtclmdidgioggdaaW.PrintWords Go.Proofs.YtclmdidgioggdaaW.PrintLast Go.Proofs.YtclmdidgioggdaaW.PrintMore
attribute [local go_sem] max2_int min2_int max_two min_two max_three min_three max_four min_four   -- for this text's walks alone
set_option linter.unusedVariables false
set_option linter.unusedSimpArgs false

/-! ### bits_Sub32: function 61 -/
def bits_Sub32.f (a0 a1 a2 : Int) : Option (Int × Int) := if 0 ≤ a0 ∧ a0 ≤ 4294967295 ∧ 0 ≤ a1 ∧ a1 ≤ 4294967295 ∧ 0 ≤ a2 ∧ a2 ≤ 1 then some ((a0 - a1 - a2) % 4294967296, if a0 < a1 + a2 then 1 else 0) else none
theorem bits_Sub32.bit (X Y b : Nat) (hX : X < 4294967296) (hY : Y < 4294967296) (hb : b ≤ 1) (D : Nat) (hD : D = (X + 8589934592 - Y - b) % 4294967296) :
    (((4294967295 ^^^ X) &&& Y) ||| ((4294967295 ^^^ (X ^^^ Y)) &&& D)) / 2147483648 = if X < Y + b then 1 else 0 := by
  have hlt : (((4294967295 ^^^ X) &&& Y) ||| ((4294967295 ^^^ (X ^^^ Y)) &&& D)) < 2 ^ 32 := by
    have hDl : D < 2 ^ 32 := by omega
    exact Nat.or_lt_two_pow (Nat.and_lt_two_pow _ hY) (Nat.and_lt_two_pow _ hDl)
  have key : ∀ n : Nat, n < 2 ^ 32 → n / 2147483648 = (n.testBit 31).toNat := by
    intro n hn
    rw [Nat.testBit_eq_decide_div_mod_eq]
    have : n / 2 ^ 31 < 2 := by omega
    by_cases h : n / 2 ^ 31 % 2 = 1 <;> simp [h] <;> omega
  rw [key _ hlt]
  have tb : ∀ n : Nat, n < 4294967296 → n.testBit 31 = decide (2147483648 ≤ n) := by
    intro n hn
    rw [Nat.testBit_eq_decide_div_mod_eq]
    have : n / 2 ^ 31 < 2 := by omega
    by_cases h : 2147483648 ≤ n <;> simp [h] <;> omega
  have hDl : D < 4294967296 := by omega
  rw [Nat.testBit_or, Nat.testBit_and, Nat.testBit_and, Nat.testBit_xor, Nat.testBit_xor, Nat.testBit_xor, tb X hX, tb Y hY, tb D hDl, tb 4294967295 (by omega)]
  by_cases h1 : 2147483648 ≤ X <;> by_cases h2 : 2147483648 ≤ Y <;> by_cases h3 : 2147483648 ≤ D <;> by_cases h4 : X < Y + b <;> simp [h1, h2, h3, h4] <;> omega
theorem bits_Sub32.u32 (n : Int) (h0 : 0 ≤ n) (h1 : n < 2 ^ 32) : IntKind.u32.wrap n = n := by rw [IntKind.wrap_u32]; omega
theorem bits_Sub32.xor (a b : Nat) (ha : a < 2 ^ 32) (hb : b < 2 ^ 32) : Go.bits .xor .u32 a b = ((a ^^^ b : Nat) : Int) := by
  have ha' : a % 2 ^ IntKind.u32.bits = a := Nat.mod_eq_of_lt ha
  have hb' : b % 2 ^ IntKind.u32.bits = b := Nat.mod_eq_of_lt hb
  have cast : ∀ n : Nat, n < 2 ^ 32 → ((n : Nat) : Int) < 2 ^ 32 := fun n h => by exact_mod_cast h
  simp only [Go.bits, BitVec.ofInt_natCast, BitVec.toNat_xor, BitVec.toNat_ofNat, ha', hb']
  exact bits_Sub32.u32 _ (Int.natCast_nonneg _) (cast _ (Nat.xor_lt_two_pow ha hb))
theorem bits_Sub32.borrow (a0 a1 a2 : Int) (h0 : 0 ≤ a0) (h1 : a0 ≤ 4294967295) (h2 : 0 ≤ a1) (h3 : a1 ≤ 4294967295) (h4 : 0 ≤ a2) (h5 : a2 ≤ 1) :
    Go.bits .or .u32 (Go.bits .and .u32 (Go.bits .xor .u32 IntKind.u32.max a0) a1) (Go.bits .and .u32 (Go.bits .xor .u32 IntKind.u32.max (Go.bits .xor .u32 a0 a1)) ((a0 - a1 - a2) % 4294967296)) / 2147483648 = if a0 < a1 + a2 then 1 else 0 := by
  obtain ⟨X, rfl⟩ := Int.eq_ofNat_of_zero_le h0
  obtain ⟨Y, rfl⟩ := Int.eq_ofNat_of_zero_le h2
  obtain ⟨b, rfl⟩ := Int.eq_ofNat_of_zero_le h4
  have hm : IntKind.u32.max = ((4294967295 : Nat) : Int) := by rfl
  have hD : ((X : Int) - Y - b) % 4294967296 = (((X + 8589934592 - Y - b) % 4294967296 : Nat) : Int) := by omega
  have hX : X < 2 ^ 32 := by omega
  have hY : Y < 2 ^ 32 := by omega
  have hM : 4294967295 < 2 ^ 32 := by omega
  have hDl : (X + 8589934592 - Y - b) % 4294967296 < 2 ^ 32 := by omega
  have n := bits_nat .u32 32 (by decide) bits_Sub32.u32
  rw [hm, hD, bits_Sub32.xor _ _ hX hY, bits_Sub32.xor _ _ hM hX, bits_Sub32.xor _ _ hM (Nat.xor_lt_two_pow hX hY), (n _ _ (Nat.xor_lt_two_pow hM hX) hY).1, (n _ _ (Nat.xor_lt_two_pow hM (Nat.xor_lt_two_pow hX hY)) hDl).1, (n _ _ (Nat.and_lt_two_pow _ hY) (Nat.and_lt_two_pow _ hDl)).2]
  have k := bits_Sub32.bit X Y b (by omega) (by omega) (by omega) _ rfl
  have e : (((X : Int) < Y + b) ↔ (X < Y + b)) := by omega
  rw [show ((2147483648 : Int)) = ((2147483648 : Nat) : Int) from rfl, ← Int.natCast_ediv, k]
  by_cases h : X < Y + b <;> simp [h, e]
set_option maxHeartbeats 4000000 in
set_option maxRecDepth 100000 in
theorem bits_Sub32.calls (a0 a1 a2 : Int) (r1 r2 : Int) (w : World) (h : bits_Sub32.f a0 a1 a2 = some (r1, r2)) :
    Calls Try.prog 61 #[.int .u32 a0, .int .u32 a1, .int .u32 a2] w fun e w' => e = .returned (.tuple #[.int .u32 r1, .int .u32 r2]) ∧ Drawn0 w w' := by
  unfold bits_Sub32.f at h
  split at h
  case isFalse => cases h
  case isTrue hx =>
    obtain ⟨h0, h1, h2, h3, h4, h5⟩ := hx
    injection h with hr
    injection hr with hr1 hr2
    have H1 := Lib.hid hr1
    have H2 := Lib.hid (bits_Sub32.borrow a0 a1 a2 h0 h1 h2 h3 h4 h5)
    have H3 := Lib.hid hr2
    clear hr1 hr2
    go_enter Try.func61, Try.ntmps61
    go_wp2
    go_ret2
    refine ⟨?_, Drawn0.refl _⟩
    show Ending.returned (.tuple #[.int .u32 ((a0 - a1 - a2) % 4294967296), .int .u32 (Go.bits .or .u32 (Go.bits .and .u32 (Go.bits .xor .u32 IntKind.u32.max a0) a1) (Go.bits .and .u32 (Go.bits .xor .u32 IntKind.u32.max (Go.bits .xor .u32 a0 a1)) ((a0 - a1 - a2) % 4294967296)) / 2147483648)]) = _
    rw [H2.out, H1.out, H3.out]

end Go.Proofs.Ytclmdidgioggdaa.Q
