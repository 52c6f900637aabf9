/- What the functions of the reference of layer 3 come to, told by numbers (lists of decimal digits, the lowest first). The conditions stand in each theorem. -/
import Derived.Test.YtclmdidgioggdaaNum
import Derived.Test.YtclmdidgioggdaaQx18
import Derived.Test.YtclmdidgioggdaaQx22
import Derived.Test.YtclmdidgioggdaaQx23
import Derived.Test.YtclmdidgioggdaaQx24
import Derived.Test.YtclmdidgioggdaaQx25
namespace Go.Proofs.Ytclmdidgioggdaa.Num
open Go.RowKit Go.Proofs.YtclmdidgioggdaaW.PrintWords Go.Proofs.Ytclmdidgioggdaa.Q
abbrev T (n : Nat) : List Int := Ds 10 n
abbrev VT (l : List Int) : Int := Vl 10 l
abbrev DT (l : List Int) : Prop := Dg 10 l
theorem VT_T (n : Nat) : VT (T n) = n := Vl_Ds 10 (by omega) n
theorem DT_T (n : Nat) : DT (T n) := Dg.Ds 10 (by omega) n
theorem T_len {n k : Nat} (h : n < 10 ^ k) : (T n).length ≤ k := by
  refine Ds_lt 10 (by omega) k n ?_
  have : ∀ k, Pw 10 k = ((10 ^ k : Nat) : Int) := by
    intro k
    induction k with
    | zero => rfl
    | succ k ih => rw [show Pw 10 (k + 1) = 10 * Pw 10 k from rfl, ih, Nat.pow_succ]; omega
  show (n : Int) < Pw 10 k
  rw [this]
  exact Int.ofNat_lt.2 h
theorem T_zero_iff (n : Nat) : (T n).length = 0 ↔ n = 0 := by
  constructor
  · intro h
    have := VT_T n
    rw [List.length_eq_zero_iff.1 h] at this
    simp [Vl] at this
    omega
  · rintro rfl; simp [Ds_zero]
theorem E_rtrim (l : List Int) (hl : l.length ≤ 4611686018427387904) (hd : DT l) : Ev (fun k => coxswainref03_trim.f k l) (T (VT l).toNat) :=
  trim_gen 10 (by omega) coxswainref03_trim.l0 (fun _ _ => rfl) l.length l rfl hl hd
/-- the way in which a number's digits are told, the lowest first, of whatever function does it so -/
theorem low_gen (b : Nat) (hb : 2 ≤ b) (hb2 : b ≤ 9223372036854775807) (g : Nat → Int → List Int → Option (List Int))
    (hg : ∀ k x0 x3, g (k + 1) x0 x3 = if x0 > 0 then (if x3.length < 17592186044416 then (g k (IntKind.u64.wrap (Int.tdiv x0 b)) (x3 ++ [wrap64 (Int.tmod x0 b)])) else (none)) else (some x3)) :
    ∀ (n : Nat) (acc : List Int), n < 18446744073709551616 → acc.length + (Ds b n).length ≤ 1000000 → Ev (fun k => g k (n : Int) acc) (acc ++ Ds b n) := by
  intro n
  induction n using Nat.strongRecOn with
  | _ n ih =>
    intro acc hn hl
    by_cases h : n = 0
    · subst h
      refine Ev.step (f := fun _ => some (acc ++ Ds b 0)) (fun k => ?_) (Ev.now _)
      rw [hg, if_neg (by omega), Ds_zero, List.append_nil]
    · have e := Ds_pos b n hb (by omega)
      rw [e] at hl ⊢
      have hlt := Nat.div_lt_self (show 0 < n by omega) (show 1 < b by omega)
      have hm := Nat.mod_lt n (show 0 < b by omega)
      refine Ev.step (f := fun k => g k ((n / b : Nat) : Int) (acc ++ [((n % b : Nat) : Int)])) (fun k => ?_) ?_
      · rw [hg, if_pos (by omega), if_pos (by simp at hl; omega)]
        rw [Int.tdiv_eq_ediv_of_nonneg (by omega), Int.tmod_eq_emod_of_nonneg (by omega), ← Int.natCast_ediv, ← Int.natCast_emod]
        rw [u64 (Int.natCast_nonneg _) (by have : ((n / b : Nat) : Int) < n := Int.ofNat_lt.2 hlt; omega), w64 (by have := Int.natCast_nonneg (n % b); omega) (by have : ((n % b : Nat) : Int) < b := Int.ofNat_lt.2 hm; omega)]
      · have := ih (n / b) hlt (acc ++ [((n % b : Nat) : Int)]) (by omega) (by simp at hl ⊢; omega)
        simpa using this
theorem E_rof (n : Nat) (hn : n < 18446744073709551616) : Ev (fun k => coxswainref03_Of.f k (n : Int)) (T n) := by
  have := low_gen 10 (by omega) (by omega) coxswainref03_Of.l0 (fun _ _ _ => rfl) n [] hn (by have h : (Ds 10 n).length ≤ 20 := T_len (n := n) (k := 20) (by omega); simp; omega)
  rw [List.nil_append] at this
  exact this
theorem rat_at (l : List Int) (i : Nat) : coxswainref03_at.f l (i : Int) = some (l[i]?.getD 0) := by
  unfold coxswainref03_at.f
  by_cases h : i < l.length
  · rw [if_pos (by omega), if_pos (by omega), rd_get l i h]
    simp [h]
  · rw [if_neg (by omega)]
    simp [h]
theorem DT_getD {l : List Int} (h : DT l) (i : Nat) : 0 ≤ l[i]?.getD 0 ∧ l[i]?.getD 0 ≤ 9 := by
  by_cases hi : i < l.length
  · have := h.get i hi
    simp [hi]
    omega
  · simp [hi]
theorem E_radd (a b : Nat) (ha : (T a).length ≤ 1000000) (hb : (T b).length ≤ 1000000) : Ev (fun k => coxswainref03_Add.f k (T a) (T b)) (T (a + b)) := by
  have main : ∀ (d i : Nat) (done : List Int) (c : Int), max (T a).length (T b).length + 1 - i = d → i ≤ max (T a).length (T b).length + 1 → done.length = i → DT done → 0 ≤ c → c ≤ 1 → (i = max (T a).length (T b).length + 1 → c = 0) →
      VT done + Pw 10 i * c = VT ((T a).take i) + VT ((T b).take i) →
      Ev (fun k => coxswainref03_Add.l0 k (T a) (T b) done c (i : Int)) (T (a + b)) := by
    intro d
    induction d with
    | zero =>
      intro i done c hd hi hl hdn h0 h1 hc hv
      have hc0 : c = 0 := hc (by omega)
      subst hc0
      have ta : (T a).take i = T a := List.take_of_length_le (by omega)
      have tb : (T b).take i = T b := List.take_of_length_le (by omega)
      rw [ta, tb, VT_T, VT_T, Int.mul_zero, Int.add_zero] at hv
      have h := E_rtrim done (by omega) hdn
      rw [hv, show ((a : Int) + b).toNat = a + b by omega] at h
      refine Ev.step (f := fun k => coxswainref03_Add.j1 k (T a) (T b) done 0 (i : Int) false) (fun k => by simp only [coxswainref03_Add.l0]; rw [if_neg (by omega), if_neg (by omega)]; rfl) ?_
      refine Ev.step (f := fun k => (coxswainref03_trim.f k done).bind fun t => some t) (fun k => by simp only [coxswainref03_Add.j1]; rw [if_neg (by simp)]) ?_
      exact Ev.bind h (Ev.now _)
    | succ d ih =>
      intro i done c hd hi hl hdn h0 h1 hc hv
      by_cases hend : max (T a).length (T b).length ≤ i ∧ c = 0
      · obtain ⟨hend, rfl⟩ := hend
        have ta : (T a).take i = T a := List.take_of_length_le (by omega)
        have tb : (T b).take i = T b := List.take_of_length_le (by omega)
        rw [ta, tb, VT_T, VT_T, Int.mul_zero, Int.add_zero] at hv
        have h := E_rtrim done (by omega) hdn
        rw [hv, show ((a : Int) + b).toNat = a + b by omega] at h
        refine Ev.step (f := fun k => coxswainref03_Add.j1 k (T a) (T b) done 0 (i : Int) false) (fun k => by simp only [coxswainref03_Add.l0]; rw [if_neg (by omega), if_neg (by omega)]; rfl) ?_
        refine Ev.step (f := fun k => (coxswainref03_trim.f k done).bind fun t => some t) (fun k => by simp only [coxswainref03_Add.j1]; rw [if_neg (by simp)]) ?_
        exact Ev.bind h (Ev.now _)
      · have hx := DT_getD (DT_T a) i; have hy := DT_getD (DT_T b) i
        have ex : (T a).length ≤ i → (T a)[i]?.getD 0 = 0 := fun h => by simp [h]
        have ey : (T b).length ≤ i → (T b)[i]?.getD 0 = 0 := fun h => by simp [h]
        generalize hxa : (T a)[i]?.getD 0 = x at *
        generalize hyb : (T b)[i]?.getD 0 = y at *
        refine Ev.step (f := fun k => coxswainref03_Add.j1 k (T a) (T b) done c (i : Int) true) (fun k => ?_) ?_
        · simp only [coxswainref03_Add.l0]
          by_cases q1 : i < (T a).length
          · rw [if_pos (by omega)]
          · rw [if_neg (by omega)]
            by_cases q2 : i < (T b).length
            · rw [if_pos (by omega)]
            · rw [if_neg (by omega)]
              congr 1
              refine decide_eq_true ?_
              omega
        · refine Ev.step (f := fun k => coxswainref03_Add.l0 k (T a) (T b) (done ++ [(x + y + c) % 10]) ((x + y + c) / 10) ((i + 1 : Nat) : Int)) (fun k => ?_) ?_
          · simp only [coxswainref03_Add.j1]
            rw [if_pos (by simp), rat_at, rat_at, hxa, hyb]
            simp only [Option.bind_some]
            rw [if_pos (by omega)]
            rw [w64 (x := x + y) (by omega) (by omega), w64 (x := x + y + c) (by omega) (by omega), Int.tmod_eq_emod_of_nonneg (by omega), Int.tdiv_eq_ediv_of_nonneg (by omega), w64 (x := (x + y + c) / 10) (by omega) (by omega)]
            rw [show wrap64 ((i : Int) + 1) = ((i + 1 : Nat) : Int) from by rw [w64 (by omega) (by omega)]; omega]
          · refine ih (i + 1) _ _ (by omega) (by omega) (by simp [hl]) (hdn.append (by intro z hz; simp at hz; omega)) (by omega) (by omega) (by intro hh; have := ex (by omega); have := ey (by omega); omega) ?_
            have e1 := Vl_take_succ 10 (T a) i
            have e2 := Vl_take_succ 10 (T b) i
            rw [hxa] at e1; rw [hyb] at e2
            show Vl 10 (done ++ [(x + y + c) % 10]) + Pw 10 (i + 1) * ((x + y + c) / 10) = Vl 10 ((T a).take (i + 1)) + Vl 10 ((T b).take (i + 1))
            have hv' : Vl 10 done + Pw 10 i * c = Vl 10 ((T a).take i) + Vl 10 ((T b).take i) := hv
            rw [e1, e2, Vl_append, hl]
            have hq : (x + y + c) = 10 * ((x + y + c) / 10) + (x + y + c) % 10 := by omega
            generalize (x + y + c) / 10 = q at *
            generalize (x + y + c) % 10 = s at *
            have e3 : Vl 10 [s] = s := by simp [Vl]
            have e4 : Pw 10 (i + 1) = 10 * Pw 10 i := rfl
            rw [e3, e4]
            grind
  have h := main _ 0 [] 0 rfl (by omega) rfl (Dg.nil _) (by omega) (by omega) (by omega) (by simp [Vl])
  exact h
theorem E_rdiv (a d : Nat) (hd0 : 0 < d) (hd : d ≤ 4294967296) (ha : (T a).length ≤ 1000000) : Ev (fun k => coxswainref03_Div.f k (T a) (d : Int)) (T (a / d), ((a % d : Nat) : Int)) := by
  have main : ∀ (i : Nat) (out : List Int) (rest : Int), i ≤ (T a).length → out.length = (T a).length → DT out → 0 ≤ rest → rest < d →
      (∀ q, q < i → out[q]?.getD 0 = 0) → Vl 10 ((T a).drop i) = Vl 10 (out.drop i) * d + rest →
      Ev (fun k => coxswainref03_Div.l0 k (T a) (d : Int) out rest ((i : Int) - 1)) (T (a / d), ((a % d : Nat) : Int)) := by
    intro i
    induction i with
    | zero =>
      intro out rest hi hl hdo h0 h1 _ hv
      rw [List.drop_zero, List.drop_zero, show Vl 10 (T a) = (a : Int) from VT_T a] at hv
      have e1 : Vl 10 out = ((a / d : Nat) : Int) := by
        rw [Int.natCast_ediv, hv, Int.add_comm, Int.add_mul_ediv_right _ _ (by omega), Int.ediv_eq_zero_of_lt h0 h1, Int.zero_add]
      have e2 : rest = ((a % d : Nat) : Int) := by
        rw [Int.natCast_emod, hv, Int.add_comm, Int.add_mul_emod_self_right]
        exact (Int.emod_eq_of_lt h0 h1).symm
      have h := E_rtrim out (by omega) hdo
      rw [show VT out = ((a / d : Nat) : Int) from e1, Int.toNat_natCast] at h
      refine Ev.step (f := fun k => (coxswainref03_trim.f k out).bind fun t => some (t, rest)) (fun k => by simp only [coxswainref03_Div.l0]; rw [if_neg (by omega)]) ?_
      rw [← e2]
      exact Ev.bind h (Ev.now _)
    | succ i ih =>
      intro out rest hi hl hdo h0 h1 hz hv
      have hiA : i < (T a).length := by omega
      have hx := (DT_T a).get i hiA
      generalize hxv : (T a)[i] = x at hx
      have hA : 0 ≤ 10 * rest + x := by omega
      have q0 : 0 ≤ (10 * rest + x) / d := Int.ediv_nonneg hA (by omega)
      have q1 : (10 * rest + x) / d < 10 := Int.ediv_lt_of_lt_mul (by omega) (by omega)
      have r0 := Int.emod_nonneg (10 * rest + x) (show (d : Int) ≠ 0 by omega)
      have r1 := Int.emod_lt_of_pos (10 * rest + x) (show 0 < (d : Int) by omega)
      have hdm := Int.emod_add_mul_ediv (10 * rest + x) d
      refine Ev.step (f := fun k => coxswainref03_Div.l0 k (T a) (d : Int) (out.set i ((10 * rest + x) / d)) ((10 * rest + x) % d) ((i : Int) - 1)) (fun k => ?_) ?_
      · simp only [coxswainref03_Div.l0]
        rw [show ((i + 1 : Nat) : Int) - 1 = (i : Int) by omega]
        rw [if_pos (by omega), if_pos (by omega), if_pos (by omega), if_neg (by omega), if_pos (by omega), rd_get (T a) i hiA, hxv]
        rw [w64 (x := 10 * rest) (by omega) (by omega), w64 (x := 10 * rest + x) (by omega) (by omega), Int.tdiv_eq_ediv_of_nonneg hA, Int.tmod_eq_emod_of_nonneg hA, w64 (x := (10 * rest + x) / d) (by omega) (by omega), w64 (by omega) (by omega)]
        rfl
      · refine ih _ _ (by omega) (by simp; omega) (hdo.set _ q0 q1) r0 r1 ?_ ?_
        · intro q hq
          rw [List.getElem?_set_ne (by omega)]
          exact hz q (by omega)
        · rw [Vl_drop 10 (T a) i hiA, hxv, hv]
          rw [Vl_drop 10 (out.set i ((10 * rest + x) / d)) i (by simp; omega)]
          rw [List.getElem_set_self, List.drop_set_of_lt (by omega)]
          generalize Vl 10 (out.drop (i + 1)) = v
          generalize (10 * rest + x) / (d : Int) = q at *
          generalize (10 * rest + x) % (d : Int) = r at *
          grind
  have h := main (T a).length (List.replicate (T a).length 0) 0 (Nat.le_refl _) (by simp) (Dg.zeros (by omega) _) (by omega) (by omega) (by intro q hq; simp [hq]) (by rw [List.drop_of_length_le (by omega), List.drop_of_length_le (by simp)]; simp [Vl])
  refine Ev.congr (fun k => ?_) h
  unfold coxswainref03_Div.f
  rw [if_pos (by omega), Int.toNat_natCast, if_pos (by omega), w64 (by omega) (by omega)]
theorem T_mul_len {a b : Nat} {m n : Nat} (ha : a < 10 ^ m) (hb : b < 10 ^ n) : a * b < 10 ^ (m + n) := by
  rw [Nat.pow_add]; exact Nat.mul_lt_mul'' ha hb
theorem T_bound (n : Nat) : n < 10 ^ (T n).length := by
  have h := (Vl_bd (DT_T n)).2
  rw [show Vl 10 (T n) = (n : Int) from VT_T n] at h
  have : ∀ k, Pw 10 k = ((10 ^ k : Nat) : Int) := by
    intro k
    induction k with
    | zero => rfl
    | succ k ih => rw [show Pw 10 (k + 1) = 10 * Pw 10 k from rfl, ih, Nat.pow_succ]; omega
  have h2 : (n : Int) < Pw 10 (T n).length := h
  rw [this] at h2
  exact Int.ofNat_lt.1 h2
theorem E_rmul (a b : Nat) (ha : (T a).length ≤ 10000) (hb : (T b).length ≤ 10000) : Ev (fun k => coxswainref03_Mul.f k (T a) (T b)) (T (a * b)) := by
  -- the digits above place i are done: q is what they make
  have lenq : ∀ q, q ≤ a → (T (q * b)).length ≤ 20000 := by
    intro q hq
    have h1 := T_bound a; have h2 := T_bound b
    have := T_mul_len (Nat.lt_of_le_of_lt hq h1) h2
    have := T_len this
    omega
  have inner : ∀ (i : Nat) (x : Int) (hi : i < (T a).length) (hxv : (T a)[i] = x) (r : List Int) (q : Nat), (q + x.toNat) ≤ a →
      (Ev (fun k => coxswainref03_Mul.l0 k (T a) (T b) (T ((q + x.toNat) * b)) ((i : Int) - 1)) r) →
      ∀ (d j : Nat), x.toNat - j = d → j ≤ x.toNat → Ev (fun k => coxswainref03_Mul.l1 k (T a) (T b) (T ((q + j) * b)) (i : Int) (j : Int)) r := by
    intro i x hi hxv r q hqa hnext d
    have hx := (DT_T a).get i hi
    rw [hxv] at hx
    induction d with
    | zero =>
      intro j hd hj
      obtain rfl : j = x.toNat := by omega
      refine Ev.step (f := fun k => coxswainref03_Mul.l0 k (T a) (T b) (T ((q + x.toNat) * b)) ((i : Int) - 1)) (fun k => ?_) hnext
      simp only [coxswainref03_Mul.l1]
      rw [if_pos (by omega), if_pos (by omega), rd_get _ i hi, hxv, if_neg (by omega), w64 (by omega) (by omega)]
    | succ d ih =>
      intro j hd hj
      have hadd := E_radd ((q + j) * b) b (by have := lenq (q + j) (by omega); omega) (by omega)
      rw [show (q + j) * b + b = (q + (j + 1)) * b by rw [← Nat.add_assoc, Nat.add_mul (q + j) 1 b, Nat.one_mul]] at hadd
      refine Ev.step (f := fun k => (coxswainref03_Add.f k (T ((q + j) * b)) (T b)).bind fun t => coxswainref03_Mul.l1 k (T a) (T b) t (i : Int) ((j + 1 : Nat) : Int)) (fun k => ?_) (Ev.bind hadd (ih (j + 1) (by omega) (by omega)))
      conv => lhs; simp only [coxswainref03_Mul.l1]
      rw [if_pos (by omega), if_pos (by omega), rd_get _ i hi, hxv, if_pos (by omega), show wrap64 ((j : Int) + 1) = ((j + 1 : Nat) : Int) from by rw [w64 (by omega) (by omega)]; omega]
  have vdrop : ∀ i, (Vl 10 ((T a).drop i)).toNat ≤ a ∧ 0 ≤ Vl 10 ((T a).drop i) := by
    intro i
    have h0 := (Vl_bd ((DT_T a).drop i)).1
    refine ⟨?_, h0⟩
    have h1 := (Vl_bd ((DT_T a).take i)).1
    have e := Vl_append 10 ((T a).take i) ((T a).drop i)
    rw [List.take_append_drop, show Vl 10 (T a) = (a : Int) from VT_T a] at e
    have hp := Pw_pos (b := 10) (by omega) ((T a).take i).length
    have : 1 * Vl 10 ((T a).drop i) ≤ Pw 10 ((T a).take i).length * Vl 10 ((T a).drop i) := Int.mul_le_mul_of_nonneg_right (by omega) h0
    omega
  have main : ∀ (i : Nat), i ≤ (T a).length → Ev (fun k => coxswainref03_Mul.l0 k (T a) (T b) (T ((Vl 10 ((T a).drop i)).toNat * b)) ((i : Int) - 1)) (T (a * b)) := by
    intro i
    induction i with
    | zero =>
      intro _
      rw [List.drop_zero, show Vl 10 (T a) = (a : Int) from VT_T a, Int.toNat_natCast]
      refine Ev.step (f := fun _ => some (T (a * b))) (fun k => ?_) (Ev.now _)
      simp only [coxswainref03_Mul.l0]
      rw [if_neg (by omega)]
    | succ i ih =>
      intro hi
      have hiA : i < (T a).length := by omega
      have hx := (DT_T a).get i hiA
      have hdr := Vl_drop 10 (T a) i hiA
      have v1 := vdrop (i + 1)
      have v2 := vdrop i
      generalize hq : (Vl 10 ((T a).drop (i + 1))).toNat = q at *
      have hq' : Vl 10 ((T a).drop (i + 1)) = (q : Int) := by omega
      rw [hq'] at hdr
      generalize hxv : (T a)[i] = x at *
      have hvi : (Vl 10 ((T a).drop i)).toNat = 10 * q + x.toNat := by omega
      have ih' := ih (by omega)
      rw [hvi] at ih' v2
      have hl := lenq q v1.1
      have hsh : DT ([0] ++ T (q * b)) := by
        intro z hz
        simp at hz
        rcases hz with rfl | hz
        · omega
        · exact DT_T _ z hz
      have htr := E_rtrim ([0] ++ T (q * b)) (by simp; omega) hsh
      have hval : (VT ([0] ++ T (q * b))).toNat = 10 * q * b := by
        simp only [List.singleton_append, Vl]
        rw [show Vl 10 (T (q * b)) = ((q * b : Nat) : Int) from VT_T _]
        rw [Nat.mul_assoc]
        omega
      rw [hval] at htr
      have hin := inner i x hiA hxv _ (10 * q) v2.1 ih' _ 0 rfl (by omega)
      refine Ev.step (f := fun k => (coxswainref03_trim.f k ([0] ++ T (q * b))).bind fun t => coxswainref03_Mul.l1 k (T a) (T b) t (i : Int) 0) (fun k => ?_) (Ev.bind htr (by simpa using hin))
      conv => lhs; simp only [coxswainref03_Mul.l0]
      rw [show ((i + 1 : Nat) : Int) - 1 = (i : Int) by omega, if_pos (by omega)]
      simp only [Option.bind_some]
      rw [if_pos (by simp; omega)]
  have h := main (T a).length (Nat.le_refl _)
  rw [List.drop_of_length_le (by omega)] at h
  refine Ev.congr (fun k => ?_) h
  unfold coxswainref03_Mul.f
  simp only [Vl, Int.toNat_zero, Nat.zero_mul, Ds_zero]
  rw [w64 (by omega) (by omega)]
end Go.Proofs.Ytclmdidgioggdaa.Num
