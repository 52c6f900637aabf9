/- A number's decimal text, of nat and of the reference. The conditions stand in each theorem. -/
import Derived.Test.YtclmdidgioggdaaNatB
import Derived.Test.YtclmdidgioggdaaRefA
import Derived.Test.YtclmdidgioggdaaQx22
import Derived.Test.YtclmdidgioggdaaQx8
import Derived.Test.YtclmdidgioggdaaQx9
namespace Go.Proofs.Ytclmdidgioggdaa.Num
open Go.RowKit Go.Proofs.YtclmdidgioggdaaW.PrintWords Go.Proofs.Ytclmdidgioggdaa.Q
theorem str_append (l m : List Int) : strOfNums l ++ strOfNums m = strOfNums (l ++ m) := by
  apply ByteArray.ext
  apply Array.ext'
  simp [strOfNums]
theorem E_reverse : ∀ (n : Nat) (A mid C : List Int), mid.length = n → A.length = C.length → (A ++ mid ++ C).length ≤ 4611686018427387904 →
    Ev (fun k => slices_Reverse_byte_byte.l0 k (A ++ mid ++ C) (A.length : Int) ((A.length : Int) + (mid.length : Int) - 1)) (A ++ mid.reverse ++ C) := by
  intro n
  induction n using Nat.strongRecOn with
  | _ n ih =>
    intro A mid C hn hAC hl
    by_cases h1 : mid.length ≤ 1
    · have : mid.reverse = mid := by
        match mid, h1 with
        | [], _ => rfl
        | [x], _ => rfl
      rw [this]
      exact Ev.step (f := fun _ => some (A ++ mid ++ C)) (fun k => by simp only [slices_Reverse_byte_byte.l0]; rw [if_neg (by omega)]) (Ev.now _)
    · obtain ⟨x, rest, rfl⟩ : ∃ x r, mid = x :: r := by
        match mid, h1 with
        | x :: r, _ => exact ⟨x, r, rfl⟩
        | [], h => exact absurd (Nat.zero_le _) h
      have hr : rest ≠ [] := by intro e; subst e; simp at h1
      obtain ⟨m, y, rfl⟩ : ∃ m y, rest = m ++ [y] := ⟨rest.dropLast, rest.getLast hr, (List.dropLast_concat_getLast hr).symm⟩
      have hlen : (A ++ (x :: (m ++ [y])) ++ C).length = A.length + (m.length + 2) + C.length := by simp; omega
      have e0 : (A ++ (x :: (m ++ [y])) ++ C) = A ++ [x] ++ m ++ [y] ++ C := by simp
      have ej : (A.length : Int) + (((x :: (m ++ [y])).length : Nat) : Int) - 1 = ((A.length + m.length + 1 : Nat) : Int) := by simp; omega
      have gx : rd (A ++ (x :: (m ++ [y])) ++ C) (A.length : Int) = x := by rw [rd_get _ _ (by omega)]; simp
      have gy : rd (A ++ (x :: (m ++ [y])) ++ C) ((A.length + m.length + 1 : Nat) : Int) = y := by
        rw [rd_get _ _ (by omega)]
        simp only [e0]
        rw [List.getElem_append_left (by simp; omega), List.getElem_append_right (by simp; omega)]
        simp
      have es : (((A ++ (x :: (m ++ [y])) ++ C).set A.length y).set (A.length + m.length + 1) x) = (A ++ [y]) ++ m ++ ([x] ++ C) := by
        rw [e0]
        simp [List.set_append]
        rw [if_neg (by omega), show A.length + m.length + 1 - A.length = m.length + 1 by omega]
        simp
      refine Ev.step (f := fun k => slices_Reverse_byte_byte.l0 k ((A ++ [y]) ++ m ++ ([x] ++ C)) (((A ++ [y]).length : Nat) : Int) ((((A ++ [y]).length : Nat) : Int) + (m.length : Int) - 1)) (fun k => ?_) ?_
      · conv => lhs; simp only [slices_Reverse_byte_byte.l0]
        rw [ej, if_pos (by omega), if_pos (by omega), if_pos (by omega), if_pos (by omega), if_pos (by omega), gx, gy, Int.toNat_natCast, Int.toNat_natCast, es]
        congr 1
        · rw [w64 (by omega) (by omega)]; simp
        · rw [w64 (by omega) (by omega)]; simp; omega
      · have := ih m.length (by simp at hn; omega) (A ++ [y]) m ([x] ++ C) rfl (by simp; omega) (by simp at hl ⊢; omega)
        simpa using this
theorem E_rev (l : List Int) (hl : l.length ≤ 4611686018427387904) : Ev (fun k => slices_Reverse_byte_byte.f k l) l.reverse := by
  have := E_reverse l.length [] l [] rfl rfl (by simpa using hl)
  unfold slices_Reverse_byte_byte.f
  rw [w64 (by omega) (by omega)]
  simpa using this
/-- a number's digits as letters, the lowest first -/
def digs (a : Nat) : List Int := if a = 0 then [48] else (T a).map (48 + ·)
def dec (a : Nat) : ByteArray := strOfNums (digs a).reverse
theorem digs_small {a : Nat} (h : a < 10) : digs a = [48 + (a : Int)] := by
  unfold digs
  by_cases h0 : a = 0
  · subst h0; rfl
  · rw [if_neg h0, show T a = ((a % 10 : Nat) : Int) :: T (a / 10) from Ds_pos 10 a (by omega) (by omega), show a / 10 = 0 by omega, show a % 10 = a by omega]
    show List.map _ (_ :: Ds 10 0) = _
    rw [Ds_zero]
    rfl
theorem digs_big {a : Nat} (h : 10 ≤ a) : digs a = (48 + ((a % 10 : Nat) : Int)) :: digs (a / 10) := by
  unfold digs
  rw [if_neg (by omega), if_neg (by omega), show T a = ((a % 10 : Nat) : Int) :: T (a / 10) from Ds_pos 10 a (by omega) (by omega)]
  rfl
theorem digs_len (a : Nat) : (digs a).length ≤ (T a).length + 1 := by
  unfold digs
  split <;> simp
theorem E_text (a : Nat) (ha : (N a).length ≤ 1099511627776) (ht : (T a).length ≤ 1000000) : Ev (fun k => nat_Nat_Text.f k (N a)) (dec a) := by
  have main : ∀ (a : Nat) (acc : List Int), (N a).length ≤ 1099511627776 → acc.length + (digs a).length ≤ 2000000 → Ev (fun k => nat_Nat_Text.l0 k acc (N a)) (strOfNums (acc ++ digs a).reverse) := by
    intro a
    induction a using Nat.strongRecOn with
    | _ a ih =>
      intro acc ha hl
      have hd := E_div a 10 (by omega) (by omega) ha
      have hdl : 1 ≤ (digs a).length := by
        unfold digs
        by_cases h : a = 0
        · simp [h]
        · rw [if_neg h, List.length_map]
          have := mt (T_zero_iff a).1 h
          omega
      refine Ev.step (f := fun k => (nat_Nat_Div.f k (N a) 10).bind fun bt => if acc.length < 140737488355328 then ((some (acc ++ [(48 + bt.2.1) % 256] : List Int)).bind fun y => ((nat_Nat_Zero.f bt.1).bind fun t => if t = true then ((slices_Reverse_byte_byte.f k y).bind fun t => some (strOfNums t)) else nat_Nat_Text.l0 k y bt.1)) else none) (fun k => by simp only [nat_Nat_Text.l0]) ?_
      refine Ev.bind hd ?_
      refine Ev.congr (fun k => if_pos (by omega)) ?_
      simp only [Option.bind_some, E_zero]
      have em : (48 + ((a % 10 : Nat) : Int)) % 256 = 48 + ((a % 10 : Nat) : Int) := by omega
      rw [em]
      by_cases h : a < 10
      · have hq : a / 10 = 0 := by omega
        refine Ev.congr (fun k => if_pos (by simp [hq])) ?_
        rw [digs_small h, show a % 10 = a by omega]
        rw [digs_small h] at hl
        exact Ev.bind (E_rev _ (by simp at hl ⊢; omega)) (Ev.now _)
      · have hq : a / 10 ≠ 0 := by omega
        refine Ev.congr (fun k => if_neg (by simp; omega)) ?_
        rw [digs_big (by omega)] at hl ⊢
        have hle : (N (a / 10)).length ≤ (N a).length := by
          have h1 := (Vl_bd (DN_N a)).2
          rw [show Vl 4294967296 (N a) = (a : Int) from VN_N a] at h1
          exact N_len (by have : ((a / 10 : Nat) : Int) ≤ a := by omega
                          exact Int.lt_of_le_of_lt this h1)
        have := ih (a / 10) (by omega) (acc ++ [48 + ((a % 10 : Nat) : Int)]) (by omega) (by simp at hl ⊢; omega)
        simpa using this
  have := main a [] ha (by have := digs_len a; simp; omega)
  unfold nat_Nat_Text.f
  rw [List.nil_append] at this
  exact this
theorem E_rtext (a : Nat) (ht : (T a).length ≤ 1000000) : Ev (fun k => coxswainref03_Text.f k (T a)) (dec a) := by
  by_cases h0 : a = 0
  · subst h0
    unfold coxswainref03_Text.f
    refine Ev.congr (fun k => if_pos (by simp [Ds_zero])) ?_
    exact Ev.now _
  · have hne : (T a).length ≠ 0 := fun h => h0 ((T_zero_iff a).1 h)
    have main : ∀ (d i : Nat), (T a).length - i = d → i ≤ (T a).length → Ev (fun k => coxswainref03_Text.l0 k (strOfNums (((T a).take i).map (48 + ·)).reverse) (T a) ((T a).length : Int) (i : Int)) (dec a) := by
      intro d
      induction d with
      | zero =>
        intro i hd hi
        rw [List.take_of_length_le (by omega)]
        refine Ev.step (f := fun _ => some (dec a)) (fun k => ?_) (Ev.now _)
        simp only [coxswainref03_Text.l0]
        rw [if_neg (by omega)]
        unfold dec digs
        rw [if_neg h0]
      | succ d ih =>
        intro i hd hi
        have hiA : i < (T a).length := by omega
        have hx := (DT_T a).get i hiA
        refine Ev.step (f := fun k => coxswainref03_Text.l0 k (strOfNums (((T a).take (i + 1)).map (48 + ·)).reverse) (T a) ((T a).length : Int) ((i + 1 : Nat) : Int)) (fun k => ?_) (ih (i + 1) (by omega) (by omega))
        conv => lhs; simp only [coxswainref03_Text.l0]
        rw [if_pos (by omega), if_pos (by omega), if_pos (by omega), rd_get _ i hiA]
        simp only [Option.bind_some]
        rw [w64 (by omega) (by omega), show (48 + (T a)[i]) % 256 = 48 + (T a)[i] from by omega]
        rw [if_pos (by rw [strOfNums_size, strOfNums_size]; simp; omega), str_append]
        rw [show wrap64 ((i : Int) + 1) = ((i + 1 : Nat) : Int) from by rw [w64 (by omega) (by omega)]; omega]
        rw [List.take_succ_eq_append_getElem hiA, List.map_append, List.reverse_append]
        rfl
    have h := main _ 0 rfl (by omega)
    unfold coxswainref03_Text.f
    refine Ev.congr (fun k => if_neg (by omega)) ?_
    exact h
theorem T_len_N {a k : Nat} (h : a < 10 ^ k) : (T a).length ≤ k ∧ (N a).length ≤ k := by
  refine ⟨T_len h, N_len_bits ?_⟩
  have h2 : 10 ^ k ≤ (2 ^ 32) ^ k := Nat.pow_le_pow_left (by omega) k
  rw [← Nat.pow_mul] at h2
  omega
end Go.Proofs.Ytclmdidgioggdaa.Num
