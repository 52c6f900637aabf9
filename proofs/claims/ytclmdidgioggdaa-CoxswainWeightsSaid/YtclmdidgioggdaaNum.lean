/- Plain numbers: values of lists of digits in a base, canonical lists. No condition. -/
import Derived.Test.YtclmdidgioggdaaY0
namespace Go.Proofs.Ytclmdidgioggdaa.Num
open Go.RowKit Go.Proofs.YtclmdidgioggdaaW.PrintWords
/-- base-b value -/
def Pw (b : Int) : Nat → Int | 0 => 1 | n+1 => b * Pw b n
def Vl (b : Int) : List Int → Int | [] => 0 | x :: l => x + b * Vl b l
def Dg (b : Int) (l : List Int) : Prop := ∀ x, x ∈ l → 0 ≤ x ∧ x < b
/-- canonical: digits, and the last one is not 0 -/
def Cn (b : Int) : List Int → Prop | [] => True | x :: l => (0 ≤ x ∧ x < b) ∧ Cn b l ∧ (l = [] → x ≠ 0)
theorem Pw_pos {b : Int} (hb : 0 < b) (n : Nat) : 0 < Pw b n := by
  induction n with
  | zero => simp [Pw]
  | succ n ih => exact Int.mul_pos hb ih
theorem Pw_add (b : Int) (m n : Nat) : Pw b (m + n) = Pw b m * Pw b n := by
  induction m with
  | zero => simp [Pw]
  | succ m ih => rw [Nat.succ_add]; simp only [Pw, ih]; grind
theorem Vl_append (b : Int) (l m : List Int) : Vl b (l ++ m) = Vl b l + Pw b l.length * Vl b m := by
  induction l with
  | nil => simp [Vl, Pw]
  | cons x l ih => simp only [List.cons_append, Vl, List.length_cons, Pw, ih]; grind
theorem Vl_set (b : Int) (l : List Int) (i : Nat) (h : i < l.length) (x : Int) : Vl b (l.set i x) = Vl b l + (x - l[i]) * Pw b i := by
  induction l generalizing i with
  | nil => simp at h
  | cons y l ih =>
    cases i with
    | zero => simp [Vl, Pw]; grind
    | succ i => simp only [List.set_cons_succ, Vl, Pw, List.getElem_cons_succ]; rw [ih i (by simpa using h)]; grind
theorem Dg.nil (b : Int) : Dg b [] := fun _ h => by simp at h
theorem Dg.cons {b x : Int} {l : List Int} : Dg b (x :: l) ↔ (0 ≤ x ∧ x < b) ∧ Dg b l := by simp [Dg]
theorem Vl_bd {b : Int} {l : List Int} (h : Dg b l) : 0 ≤ Vl b l ∧ Vl b l < Pw b l.length := by
  induction l with
  | nil => simp [Vl, Pw]
  | cons x l ih =>
    obtain ⟨⟨h0, h1⟩, h2⟩ := Dg.cons.1 h
    obtain ⟨i0, i1⟩ := ih h2
    simp only [Vl, List.length_cons, Pw]
    have hb : 0 < b := by omega
    have m0 : 0 ≤ b * Vl b l := Int.mul_nonneg (by omega) i0
    have m1 : b * (Vl b l + 1) ≤ b * Pw b l.length := Int.mul_le_mul_of_nonneg_left (by omega) (by omega)
    rw [Int.mul_add] at m1
    omega
theorem Cn.dg {b : Int} : ∀ {l : List Int}, Cn b l → Dg b l
  | [], _ => Dg.nil b
  | _ :: _, h => Dg.cons.2 ⟨h.1, Cn.dg h.2.1⟩
theorem Cn.pos {b : Int} : ∀ {l : List Int}, Cn b l → l ≠ [] → 0 < Vl b l
  | [], _, h => absurd rfl h
  | x :: l, h, _ => by
    have hb : 0 < b := by have := h.1; omega
    simp only [Vl]
    by_cases e : l = []
    · subst e; have := h.2.2 rfl; have := h.1; simp [Vl]; omega
    · have := Int.mul_pos hb (Cn.pos h.2.1 e); have := h.1; omega
theorem Cn.inj {b : Int} : ∀ {l m : List Int}, Cn b l → Cn b m → Vl b l = Vl b m → l = m
  | [], [], _, _, _ => rfl
  | [], y :: m, _, hm, h => by have := Cn.pos hm (by simp); simp [Vl] at h this; omega
  | x :: l, [], hl, _, h => by have := Cn.pos hl (by simp); simp [Vl] at h this; omega
  | x :: l, y :: m, hl, hm, h => by
    simp only [Vl] at h
    have hx := hl.1; have hy := hm.1
    have hb : 0 < b := by omega
    have e1 : (x + b * Vl b l) % b = x := by rw [Int.add_mul_emod_self_left]; exact Int.emod_eq_of_lt hx.1 hx.2
    have e2 : (y + b * Vl b m) % b = y := by rw [Int.add_mul_emod_self_left]; exact Int.emod_eq_of_lt hy.1 hy.2
    have e : x = y := by rw [← e1, ← e2, h]
    subst e
    have : b * Vl b l = b * Vl b m := by omega
    have := Int.eq_of_mul_eq_mul_left (by omega) this
    rw [Cn.inj hl.2.1 hm.2.1 this]
/-- canonical digits of a number -/
def Ds (b : Nat) (n : Nat) : List Int := if _h : n = 0 ∨ b < 2 then [] else ((n % b : Nat) : Int) :: Ds b (n / b)
termination_by n
decreasing_by exact Nat.div_lt_self (by omega) (by omega)
theorem Ds_zero (b : Nat) : Ds b 0 = [] := by unfold Ds; simp
theorem Ds_pos (b n : Nat) (hb : 2 ≤ b) (hn : 0 < n) : Ds b n = ((n % b : Nat) : Int) :: Ds b (n / b) := by
  rw [Ds]; rw [dif_neg (by omega)]
theorem Vl_Ds (b : Nat) (hb : 2 ≤ b) (n : Nat) : Vl b (Ds b n) = n := by
  induction n using Nat.strongRecOn with
  | _ n ih =>
    by_cases h : n = 0
    · subst h; rw [Ds_zero]; rfl
    · rw [Ds_pos b n hb (by omega)]; simp only [Vl]; rw [ih _ (Nat.div_lt_self (by omega) (by omega))]
      have := Nat.mod_add_div n b; rw [← Int.natCast_mul, ← Int.natCast_add, this]
theorem Cn_Ds (b : Nat) (hb : 2 ≤ b) (n : Nat) : Cn b (Ds b n) := by
  induction n using Nat.strongRecOn with
  | _ n ih =>
    by_cases h : n = 0
    · subst h; rw [Ds_zero]; trivial
    · rw [Ds_pos b n hb (by omega)]
      refine ⟨⟨Int.natCast_nonneg _, by have := Nat.mod_lt n (y := b) (by omega); exact Int.ofNat_lt.2 this⟩, ih _ (Nat.div_lt_self (by omega) (by omega)), fun e => ?_⟩
      by_cases k : n / b = 0
      · have e2 := Nat.mod_add_div n b; rw [k, Nat.mul_zero, Nat.add_zero] at e2; intro hz; have hz2 : n % b = 0 := Int.ofNat_eq_zero.1 hz; rw [hz2] at e2; exact h e2.symm
      · exfalso; rw [Ds_pos b _ hb (Nat.pos_of_ne_zero k)] at e; simp at e
theorem Cn_eq_Ds (b : Nat) (hb : 2 ≤ b) {l : List Int} (h : Cn b l) (n : Nat) (hv : Vl b l = n) : l = Ds b n :=
  Cn.inj h (Cn_Ds b hb n) (by rw [hv, Vl_Ds b hb])
theorem w64 {x : Int} (h0 : -9223372036854775808 ≤ x) (h1 : x ≤ 9223372036854775807) : wrap64 x = x := by unfold wrap64; omega
theorem u64 {x : Int} (h0 : 0 ≤ x) (h1 : x ≤ 18446744073709551615) : IntKind.u64.wrap x = x := by
  show x % 18446744073709551616 = x
  omega
theorem rd_get (l : List Int) (i : Nat) (h : i < l.length) : rd l (i : Int) = l[i] := by simp [rd, h]
theorem Dg.get {b : Int} {l : List Int} (h : Dg b l) (i : Nat) (hi : i < l.length) : 0 ≤ l[i] ∧ l[i] < b := h _ (List.getElem_mem hi)
theorem Dg.set {b : Int} {l : List Int} (h : Dg b l) (i : Nat) {x : Int} (h0 : 0 ≤ x) (h1 : x < b) : Dg b (l.set i x) := by
  intro y hy
  rcases List.mem_or_eq_of_mem_set hy with hy | rfl
  · exact h y hy
  · exact ⟨h0, h1⟩
theorem Dg.append {b : Int} {l m : List Int} (h : Dg b l) (k : Dg b m) : Dg b (l ++ m) := by
  intro y hy
  rcases List.mem_append.1 hy with hy | hy
  · exact h y hy
  · exact k y hy
theorem Dg.zeros {b : Int} (hb : 0 < b) (n : Nat) : Dg b (List.replicate n 0) := by
  intro y hy
  have := List.eq_of_mem_replicate hy
  omega
theorem Dg.take {b : Int} {l : List Int} (h : Dg b l) (n : Nat) : Dg b (l.take n) := fun y hy => h y (List.mem_of_mem_take hy)
theorem Dg.drop {b : Int} {l : List Int} (h : Dg b l) (n : Nat) : Dg b (l.drop n) := fun y hy => h y (List.mem_of_mem_drop hy)
theorem Vl_zeros (b : Int) (n : Nat) : Vl b (List.replicate n 0) = 0 := by
  induction n with
  | zero => rfl
  | succ n ih => simp [List.replicate_succ, Vl, ih]
theorem Dg.Ds (b : Nat) (hb : 2 ≤ b) (n : Nat) : Dg b (Ds b n) := (Cn_Ds b hb n).dg
theorem Cn_snoc {b : Int} : ∀ {l : List Int} {z : Int}, Dg b (l ++ [z]) → z ≠ 0 → Cn b (l ++ [z])
  | [], z, h, hz => ⟨h z (by simp), trivial, fun _ => hz⟩
  | x :: l, z, h, hz => by
    have h' := Dg.cons.1 h
    exact ⟨h'.1, Cn_snoc h'.2 hz, fun e => by simp at e⟩
/-- the way in which noughts behind are cut off, of whatever function does it so -/
theorem trim_gen (b : Nat) (hb : 2 ≤ b) (g : Nat → List Int → Option (List Int))
    (hg : ∀ k x0, g (k + 1) x0 = if (x0.length : Int) > 0 then (if 0 ≤ (wrap64 ((x0.length : Int) - 1)) then (if (wrap64 ((x0.length : Int) - 1)) < (x0.length : Int) then (if (rd x0 (wrap64 ((x0.length : Int) - 1))) = 0 then (if (wrap64 ((x0.length : Int) - 1)) ≤ (x0.length : Int) then (g k (x0.take ((wrap64 ((x0.length : Int) - 1)) : Int).toNat)) else (none)) else (some x0)) else (none)) else (none)) else (some x0)) :
    ∀ (n : Nat) (l : List Int), l.length = n → n ≤ 4611686018427387904 → Dg b l → Ev (fun k => g k l) (Ds b (Vl b l).toNat) := by
  intro n
  induction n with
  | zero =>
    intro l hl _ _
    obtain rfl : l = [] := List.length_eq_zero_iff.1 hl
    refine Ev.step (f := fun _ => some []) (fun k => by rw [hg]; simp) ?_
    have : Ds b (Vl (b : Int) []).toNat = [] := by simp [Vl, Ds_zero]
    rw [this]
    exact Ev.now _
  | succ n ih =>
    intro l hl hn hd
    have hne : l ≠ [] := by intro e; rw [e] at hl; simp at hl
    obtain ⟨i, z, rfl⟩ : ∃ i z, l = i ++ [z] := ⟨l.dropLast, l.getLast hne, (List.dropLast_concat_getLast hne).symm⟩
    have hi : i.length = n := by simpa using hl
    have hlen : (((i ++ [z]).length : Nat) : Int) = (n : Int) + 1 := by simp [hi]
    have e1 : wrap64 (((i ++ [z]).length : Int) - 1) = (n : Int) := by rw [hlen, w64 (by omega) (by omega)]; omega
    have e2 : rd (i ++ [z]) (n : Int) = z := by rw [rd_get _ n (by simp [hi])]; simp [hi]
    have e3 : (i ++ [z]).take ((n : Int)).toNat = i := by simp [hi]
    by_cases hz : z = 0
    · subst hz
      refine Ev.step (f := fun k => g k i) (fun k => by rw [hg, e1, e2, e3, hlen, if_pos (by omega), if_pos (by omega), if_pos (by omega), if_pos rfl, if_pos (by omega)]) ?_
      have hv : Vl (b : Int) (i ++ [0]) = Vl b i := by rw [Vl_append]; simp [Vl]
      rw [hv]
      exact ih i hi (by omega) (fun y hy => hd y (by simp [hy]))
    · refine Ev.step (f := fun _ => some (i ++ [z])) (fun k => by rw [hg, e1, e2, hlen, if_pos (by omega), if_pos (by omega), if_pos (by omega), if_neg hz]) ?_
      have h0 := (Vl_bd hd).1
      rw [← Cn_eq_Ds b hb (Cn_snoc hd hz) (Vl (b : Int) (i ++ [z])).toNat (by omega)]
      exact Ev.now _
theorem Ds_lt (b : Nat) (hb : 2 ≤ b) : ∀ (k n : Nat), (n : Int) < Pw b k → (Ds b n).length ≤ k
  | 0, n, h => by
    have : n = 0 := by simp [Pw] at h; omega
    subst this
    simp [Ds_zero]
  | k + 1, n, h => by
    by_cases hn : n = 0
    · subst hn
      simp [Ds_zero]
    · rw [Ds_pos b n hb (by omega)]
      have : ((n / b : Nat) : Int) < Pw b k := by
        simp only [Pw] at h
        rw [Int.natCast_ediv]
        exact Int.ediv_lt_of_lt_mul (by omega) (by rw [Int.mul_comm]; exact h)
      have := Ds_lt b hb k _ this
      simp
      exact this
theorem Vl_take_succ (b : Int) (l : List Int) (i : Nat) : Vl b (l.take (i + 1)) = Vl b (l.take i) + Pw b i * (l[i]?.getD 0) := by
  by_cases h : i < l.length
  · rw [List.take_succ_eq_append_getElem h, Vl_append]
    simp [Vl, h, Nat.min_eq_left (Nat.le_of_lt h)]
  · rw [List.take_of_length_le (by omega), List.take_of_length_le (by omega)]
    simp [h]
theorem Vl_drop (b : Int) (l : List Int) (i : Nat) (h : i < l.length) : Vl b (l.drop i) = l[i] + b * Vl b (l.drop (i + 1)) := by
  rw [List.drop_eq_getElem_cons h]; rfl
end Go.Proofs.Ytclmdidgioggdaa.Num
