/- Bytes and texts of numbers, both ways. The conditions stand in each theorem. -/
import Derived.Test.YtclmdidgioggdaaNatP
import Derived.Test.YtclmdidgioggdaaNatS
import Derived.Test.YtclmdidgioggdaaNatT
import Derived.Lib.EndianBits
import Derived.Test.YtclmdidgioggdaaQx34
import Derived.Test.YtclmdidgioggdaaQx35
import Derived.Test.YtclmdidgioggdaaQx39
namespace Go.Proofs.Ytclmdidgioggdaa.Num
open Go.RowKit Go.Proofs.YtclmdidgioggdaaW.PrintWords Go.Proofs.Ytclmdidgioggdaa.Q
theorem Vl_digit (b : Int) (hb : 0 < b) : ∀ (l : List Int) (i : Nat), Dg b l → l[i]?.getD 0 = Vl b l / Pw b i % b
  | [], i, _ => by simp [Vl]
  | x :: l, 0, h => by
    have h1 := (Dg.cons.1 h).1
    show x = (x + b * Vl b l) / 1 % b
    rw [Int.ediv_one, Int.add_mul_emod_self_left, Int.emod_eq_of_lt h1.1 h1.2]
  | x :: l, i + 1, h => by
    obtain ⟨h1, h2⟩ := Dg.cons.1 h
    have e : (x :: l)[i + 1]?.getD 0 = l[i]?.getD 0 := by simp
    rw [e, Vl_digit b hb l i h2]
    show Vl b l / Pw b i % b = (x + b * Vl b l) / (b * Pw b i) % b
    rw [← Int.ediv_ediv_of_nonneg (Int.le_of_lt hb), Int.add_mul_ediv_left _ _ (by omega : b ≠ 0), Int.ediv_eq_zero_of_lt h1.1 h1.2, Int.zero_add]
theorem Pw_nat (b i : Nat) : Pw b i = ((b ^ i : Nat) : Int) := by
  induction i with
  | zero => rfl
  | succ i ih =>
    show (b : Int) * Pw b i = _
    rw [ih, Nat.pow_succ, Nat.mul_comm, Int.natCast_mul]
theorem Ds_digit (b : Nat) (hb : 2 ≤ b) (a i : Nat) : (Ds b a)[i]?.getD 0 = ((a / b ^ i % b : Nat) : Int) := by
  rw [Vl_digit b (by omega) _ i (Dg.Ds b hb a), Vl_Ds b hb, Pw_nat, ← Int.natCast_ediv, ← Int.natCast_emod]
theorem byte_len (a : Nat) : (Ds 256 a).length = (bl a + 7) / 8 := by
  induction a using Nat.strongRecOn with
  | _ a ih =>
    by_cases h : a = 0
    · subst h; rw [Ds_zero, bl_zero]; rfl
    · rw [Ds_pos 256 a (by omega) (by omega), List.length_cons, ih _ (Nat.div_lt_self (by omega) (by omega))]
      by_cases h8 : 256 ≤ a
      · have := bl_shift 8 a h8
        rw [show (2 : Nat) ^ 8 = 256 from rfl] at this
        omega
      · rw [show a / 256 = 0 from Nat.div_eq_of_lt (by omega), bl_zero]
        have h1 := bl_le (a := a) (k := 8) (by omega)
        have h2 := (bl_spec h).2.2
        omega
theorem digit_quad (a q r : Nat) (hr : r < 4) : a / 256 ^ (4 * q + r) % 256 = (a / 4294967296 ^ q % 4294967296) / 256 ^ r % 256 := by
  rw [Nat.pow_add, Nat.pow_mul, show (256 : Nat) ^ 4 = 4294967296 from rfl, ← Nat.div_div_eq_div_mul]
  generalize a / 4294967296 ^ q = x
  rcases (show r = 0 ∨ r = 1 ∨ r = 2 ∨ r = 3 by omega) with rfl | rfl | rfl | rfl
  · show x / 1 % 256 = (x % 4294967296) / 1 % 256
    omega
  · show x / 256 % 256 = (x % 4294967296) / 256 % 256
    omega
  · show x / 65536 % 256 = (x % 4294967296) / 65536 % 256
    omega
  · show x / 16777216 % 256 = (x % 4294967296) / 16777216 % 256
    omega
theorem ix_of (n i : Nat) (h : i < n) (hn : n ≤ 1099511627776) : wrap64 (wrap64 ((n : Int) - 1) - (i : Int)) = ((n - 1 - i : Nat) : Int) := by
  rw [w64 (x := (n : Int) - 1) (by omega) (by omega), w64 (by omega) (by omega)]
  omega
theorem quo_of (p : Nat) (hp : p ≤ 1099511627776) : wrap64 (Int.tdiv (p : Int) 4) = ((p / 4 : Nat) : Int) := by
  rw [Int.tdiv_eq_ediv_of_nonneg (by omega), w64 (by omega) (by omega)]
  omega
theorem rem_of (p : Nat) (hp : p ≤ 1099511627776) : wrap64 (8 * Int.tmod (p : Int) 4) = ((8 * (p % 4) : Nat) : Int) := by
  rw [Int.tmod_eq_emod_of_nonneg (by omega), w64 (by omega) (by omega)]
  omega
theorem shr_of (x : Int) (r : Nat) (hr : r < 4) : shr .u32 x ((8 * r : Nat) : Int) = x / ((256 ^ r : Nat) : Int) := by
  rcases (show r = 0 ∨ r = 1 ∨ r = 2 ∨ r = 3 by omega) with rfl | rfl | rfl | rfl <;> rfl
theorem shl_of (x : Int) (h0 : 0 ≤ x) (h1 : x < 256) (r : Nat) (hr : r < 4) : shl .u32 x ((8 * r : Nat) : Int) = x * ((256 ^ r : Nat) : Int) := by
  rcases (show r = 0 ∨ r = 1 ∨ r = 2 ∨ r = 3 by omega) with rfl | rfl | rfl | rfl
  · show (x * 1) % 4294967296 = x * 1
    omega
  · show (x * 256) % 4294967296 = x * 256
    omega
  · show (x * 65536) % 4294967296 = x * 65536
    omega
  · show (x * 16777216) % 4294967296 = x * 16777216
    omega
def byt (a : Nat) : ByteArray := strOfNums (Ds 256 a).reverse
theorem E_bytes (a : Nat) (ha : (N a).length ≤ 1000000) : Ev (fun k => nat_Nat_Bytes.f k (N a)) (byt a) := by
  obtain ⟨n, hn⟩ : ∃ n, n = (bl a + 7) / 8 := ⟨_, rfl⟩
  obtain ⟨L, hL⟩ : ∃ L, L = (Ds 256 a).reverse := ⟨_, rfl⟩
  have hlen : L.length = n := by rw [hL, List.length_reverse, byte_len, hn]
  have hbl := bl_len a
  have main : ∀ (d i : Nat), n - i = d → i ≤ n → Ev (fun k => nat_Nat_Bytes.l0 k (n : Int) (L.take i ++ List.replicate (n - i) 0) (n : Int) (i : Int) (N a)) (byt a) := by
    intro d
    induction d with
    | zero =>
      intro i hd hi
      obtain rfl : i = n := by omega
      refine Ev.step (f := fun _ => some (byt a)) (fun k => ?_) (Ev.now _)
      rw [nat_Nat_Bytes.l0, if_neg (by omega), List.take_of_length_le (by omega), Nat.sub_self, List.replicate_zero, List.append_nil, hL]
      rfl
    | succ d ih =>
      intro i hd hi
      have hiL : i < L.length := by omega
      have hget : L[i] = ((a / 256 ^ (n - 1 - i) % 256 : Nat) : Int) := by
        rw [← Ds_digit 256 (by omega)]
        subst hL
        rw [List.getElem_reverse]
        have : (Ds 256 a).length = n := by rw [byte_len, hn]
        rw [List.getElem?_eq_getElem (by omega)]
        simp only [Option.getD_some]
        congr 1
        omega
      have hset : (L.take i ++ List.replicate (n - i) 0).set ((i : Int)).toNat (L[i]) = L.take (i + 1) ++ List.replicate (n - (i + 1)) 0 := by
        have e : n - i = (n - (i + 1)) + 1 := by omega
        rw [e, List.replicate_succ, List.take_succ_eq_append_getElem hiL]
        have hti : (L.take i).length = i := by simp; omega
        rw [Int.toNat_natCast, List.set_append, if_neg (by omega), hti, Nat.sub_self, List.set_cons_zero, List.append_assoc]
        rfl
      refine Ev.step (f := fun k => nat_Nat_Bytes.l0 k (n : Int) (L.take (i + 1) ++ List.replicate (n - (i + 1)) 0) (n : Int) ((i + 1 : Nat) : Int) (N a)) (fun k => ?_) (ih (i + 1) (by omega) (by omega))
      conv => lhs; rw [nat_Nat_Bytes.l0]
      rw [if_pos (by omega), ix_of n i (by omega) (by omega), quo_of _ (by omega), rem_of _ (by omega)]
      refine bsome (getD_at _ _) ?_
      rw [if_pos (by omega), if_pos (by omega), if_pos (by simp; omega)]
      have hv : shr .u32 ((N a)[(n - 1 - i) / 4]?.getD 0) ((8 * ((n - 1 - i) % 4) : Nat) : Int) % 256 = L[i] := by
        rw [shr_of _ _ (by omega), hget, show N a = Ds 4294967296 a from rfl, Ds_digit 4294967296 (by omega)]
        have := digit_quad a ((n - 1 - i) / 4) ((n - 1 - i) % 4) (by omega)
        rw [Nat.div_add_mod] at this
        rw [this]
        omega
      rw [hv, hset, show wrap64 ((i : Int) + 1) = ((i + 1 : Nat) : Int) from by rw [w64 (by omega) (by omega)]; omega]
  have h := main _ 0 rfl (by omega)
  unfold nat_Nat_Bytes.f
  rw [E_bits a (by omega)]
  refine Ev.bind (Ev.now _) ?_
  have e : wrap64 (Int.tdiv (wrap64 ((bl a : Int) + 7)) 8) = (n : Int) := by
    rw [w64 (x := (bl a : Int) + 7) (by omega) (by omega), Int.tdiv_eq_ediv_of_nonneg (by omega), w64 (by omega) (by omega)]
    omega
  rw [e]
  refine Ev.congr (fun k => if_pos (by omega)) ?_
  refine Ev.congr (fun k => if_pos (by omega)) ?_
  refine Ev.bind (Ev.now _) ?_
  rw [Int.toNat_natCast, List.length_replicate]
  exact h
theorem E_rbits (a : Nat) (ha : (T a).length ≤ 1000000) (hb : bl a ≤ 1000000) : Ev (fun k => coxswainref03_Bits.f k (T a)) (bl a : Int) := by
  have main : ∀ (a : Nat), (T a).length ≤ 1000000 → ∀ (c : Nat), c + bl a ≤ 1000000 → Ev (fun k => coxswainref03_Bits.l0 k (T a) (c : Int)) ((c + bl a : Nat) : Int) := by
    intro a
    induction a using Nat.strongRecOn with
    | _ a ih =>
      intro ha c hc
      by_cases h : a = 0
      · subst h
        refine Ev.step (f := fun _ => some (c : Int)) (fun k => ?_) (Ev.now _)
        rw [coxswainref03_Bits.l0, if_neg (by rw [(T_zero_iff 0).2 rfl]; omega)]
      · have hne : (T a).length ≠ 0 := fun e => h ((T_zero_iff a).1 e)
        have hb := bl_half a h
        refine Ev.step (f := fun k => (coxswainref03_Div.f k (T a) 2).bind fun t => coxswainref03_Bits.l0 k t.1 ((c + 1 : Nat) : Int)) (fun k => ?_) ?_
        · rw [coxswainref03_Bits.l0, if_pos (by omega), show wrap64 ((c : Int) + 1) = ((c + 1 : Nat) : Int) from by rw [w64 (by omega) (by omega)]; omega]
        · have e := ih (a / 2) (Nat.div_lt_self (by omega) (by omega)) (Nat.le_trans (T_len_le (Nat.div_le_self _ _)) ha) (c + 1) (by omega)
          rw [show c + 1 + bl (a / 2) = c + bl a by omega] at e
          exact Ev.bind (E_rdiv a 2 (by omega) (by omega) ha) e
  have := main a ha 0 (by omega)
  rw [Nat.zero_add] at this
  exact this
theorem E_rbytes (a : Nat) (ha : (T a).length ≤ 1000000) (hb : bl a ≤ 1000000) : Ev (fun k => coxswainref03_Bytes.f k (T a)) (byt a) := by
  have main : ∀ (a : Nat), (T a).length ≤ 1000000 → ∀ (m : List Int), m.length + (Ds 256 a).length ≤ 1000000 → Ev (fun k => coxswainref03_Bytes.l0 k (T a) (strOfNums m)) (strOfNums ((Ds 256 a).reverse ++ m)) := by
    intro a
    induction a using Nat.strongRecOn with
    | _ a ih =>
      intro ha m hm
      by_cases h : a = 0
      · subst h
        rw [show (Ds 256 0).reverse ++ m = m by rw [Ds_zero]; rfl]
        refine Ev.step (f := fun _ => some (strOfNums m)) (fun k => ?_) (Ev.now _)
        rw [coxswainref03_Bytes.l0, if_neg (by rw [(T_zero_iff 0).2 rfl]; omega)]
      · have hne : (T a).length ≠ 0 := fun e => h ((T_zero_iff a).1 e)
        rw [Ds_pos 256 a (by omega) (by omega), List.length_cons] at hm
        have e := ih (a / 256) (Nat.div_lt_self (by omega) (by omega)) (Nat.le_trans (T_len_le (Nat.div_le_self _ _)) ha) (((a % 256 : Nat) : Int) :: m) (by rw [List.length_cons]; omega)
        have e2 : (Ds 256 a).reverse ++ m = (Ds 256 (a / 256)).reverse ++ ((a % 256 : Nat) : Int) :: m := by
          rw [Ds_pos 256 a (by omega) (by omega), List.reverse_cons, List.append_assoc]; rfl
        rw [← e2] at e
        refine Ev.step (f := fun k => (coxswainref03_Div.f k (T a) 256).bind fun t => if (strOfNums [t.2 % 256]).size + (strOfNums m).size ≤ 9223372036854775807 then coxswainref03_Bytes.l0 k t.1 (strOfNums [t.2 % 256] ++ strOfNums m) else none) (fun k => ?_) ?_
        · rw [coxswainref03_Bytes.l0, if_pos (by omega)]
          rfl
        · refine Ev.bind (E_rdiv a 256 (by omega) (by omega) ha) ?_
          refine Ev.congr (fun k => if_pos (by rw [strOfNums_size, strOfNums_size, List.length_cons, List.length_nil]; omega)) ?_
          have e3 : ((a % 256 : Nat) : Int) % 256 = ((a % 256 : Nat) : Int) := by omega
          rw [str_append, e3]
          exact e
  have := main a ha [] (by rw [byte_len]; simp; omega)
  rw [List.append_nil] at this
  exact this
end Go.Proofs.Ytclmdidgioggdaa.Num
