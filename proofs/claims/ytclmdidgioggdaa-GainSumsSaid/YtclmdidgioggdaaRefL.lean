/- What the functions of the reference of layer 4 come to, told by numbers (limbs of six decimal digits). The conditions stand in each theorem. -/
import Derived.Test.YtclmdidgioggdaaRefA
import Derived.Test.YtclmdidgioggdaaNatB
import Derived.Test.YtclmdidgioggdaaQx10
import Derived.Test.YtclmdidgioggdaaQx11
import Derived.Test.YtclmdidgioggdaaQx12
import Derived.Test.YtclmdidgioggdaaQx13
import Derived.Test.YtclmdidgioggdaaQx26
namespace Go.Proofs.Ytclmdidgioggdaa.Num
open Go.RowKit Go.Proofs.YtclmdidgioggdaaW.PrintWords Go.Proofs.Ytclmdidgioggdaa.Q
abbrev L (n : Nat) : List Int := Ds 1000000 n
abbrev VL (l : List Int) : Int := Vl 1000000 l
abbrev DL (l : List Int) : Prop := Dg 1000000 l
theorem VL_L (n : Nat) : VL (L n) = n := Vl_Ds 1000000 (by omega) n
theorem DL_L (n : Nat) : DL (L n) := Dg.Ds 1000000 (by omega) n
theorem L_pw (k : Nat) : Pw 1000000 k = ((1000000 ^ k : Nat) : Int) := by
  induction k with
  | zero => rfl
  | succ k ih => rw [show Pw 1000000 (k + 1) = 1000000 * Pw 1000000 k from rfl, ih, Nat.pow_succ]; omega
theorem L_len {n k : Nat} (h : n < 1000000 ^ k) : (L n).length ≤ k := by
  refine Ds_lt 1000000 (by omega) k n ?_
  show (n : Int) < Pw 1000000 k
  rw [L_pw]
  exact Int.ofNat_lt.2 h
theorem L_zero_iff (n : Nat) : (L n).length = 0 ↔ n = 0 := by
  constructor
  · intro h
    have := VL_L n
    rw [List.length_eq_zero_iff.1 h] at this
    simp [Vl] at this
    omega
  · rintro rfl; simp [Ds_zero]
theorem E_limbs (n : Nat) (hn : n < 18446744073709551616) : Ev (fun k => coxswainref04_limbs.f k (n : Int)) (L n) := by
  have := low_gen 1000000 (by omega) (by omega) coxswainref04_limbs.l0 (fun _ _ _ => rfl) n [] hn (by have h : (Ds 1000000 n).length ≤ 4 := L_len (n := n) (k := 4) (by omega); simp; omega)
  rw [List.nil_append] at this
  exact this
/-- what is carried goes up till it is none -/
theorem sq_carry (A : List Int) (T : List Int) (z i : Int) (res : List Int) (bound : Int) :
    ∀ (d p : Nat) (out : List Int) (c : Int), out.length - p = d → p ≤ out.length → out.length ≤ 4611686018427387904 → DL out → 0 ≤ c → c < 1000000 →
      VL out + Pw 1000000 p * c = bound → bound < Pw 1000000 out.length →
      (∀ out', DL out' → out'.length = out.length → VL out' = bound → Ev (fun k => coxswainref04_square.l0 k A out' T z (wrap64 (i + 1))) res) →
      Ev (fun k => coxswainref04_square.l2 k A out c (p : Int) T z i) res := by
  intro d
  induction d with
  | zero =>
    intro p out c hd hp hl hdo h0 h1 hv hb hG
    obtain rfl : p = out.length := by omega
    have := (Vl_bd hdo).1
    have hP := Pw_pos (b := 1000000) (by omega) out.length
    have hc : c = 0 := by
      by_cases h : c = 0
      · exact h
      · exfalso
        have : Pw 1000000 out.length * 1 ≤ Pw 1000000 out.length * c := Int.mul_le_mul_of_nonneg_left (by omega) (by omega)
        have : 0 ≤ VL out := (Vl_bd hdo).1
        omega
    subst hc
    refine Ev.step (f := fun k => coxswainref04_square.l0 k A out T z (wrap64 (i + 1))) (fun k => by simp only [coxswainref04_square.l2]; rw [if_neg (by omega)]) ?_
    exact hG out hdo rfl (by rw [← hv]; omega)
  | succ d ih =>
    intro p out c hd hp hl hdo h0 h1 hv hb hG
    by_cases hc : c = 0
    · subst hc
      refine Ev.step (f := fun k => coxswainref04_square.l0 k A out T z (wrap64 (i + 1))) (fun k => by simp only [coxswainref04_square.l2]; rw [if_neg (by omega)]) ?_
      exact hG out hdo rfl (by rw [← hv]; omega)
    · have hpl : p < out.length := by omega
      have ho := hdo.get p hpl
      generalize hov : out[p] = o at ho
      refine Ev.step (f := fun k => coxswainref04_square.l2 k A (out.set p ((o + c) % 1000000)) ((o + c) / 1000000) ((p + 1 : Nat) : Int) T z i) (fun k => ?_) ?_
      · conv => lhs; simp only [coxswainref04_square.l2]
        rw [if_pos (by omega), if_pos (by omega), if_pos (by omega), rd_get _ p hpl, hov, w64 (x := o + c) (by omega) (by omega), Int.tmod_eq_emod_of_nonneg (by omega), Int.tdiv_eq_ediv_of_nonneg (by omega), w64 (x := (o + c) / 1000000) (by omega) (by omega)]
        rw [show wrap64 ((p : Int) + 1) = ((p + 1 : Nat) : Int) from by rw [w64 (by omega) (by omega)]; omega]
        rfl
      · refine ih (p + 1) _ _ (by simp; omega) (by simp; omega) (by simp; omega) (hdo.set _ (by omega) (by omega)) (by omega) (by omega) ?_ (by simpa using hb) (fun out' a b c => hG out' a (by simpa using b) c)
        show Vl 1000000 (out.set p ((o + c) % 1000000)) + Pw 1000000 (p + 1) * ((o + c) / 1000000) = bound
        rw [Vl_set _ _ _ hpl, hov, ← hv]
        have hq : (o + c) = 1000000 * ((o + c) / 1000000) + (o + c) % 1000000 := by omega
        generalize (o + c) / 1000000 = q at *
        generalize (o + c) % 1000000 = s at *
        have e4 : Pw 1000000 (p + 1) = 1000000 * Pw 1000000 p := rfl
        rw [e4]
        show Vl 1000000 out + (s - o) * Pw 1000000 p + _ = Vl 1000000 out + _
        grind
/-- one limb times a number, added from a place on -/
theorem sq_row (B : List Int) (hB : DL B) (x : Int) (hx0 : 0 ≤ x) (hx1 : x < 1000000) (i : Nat) (A : List Int) (T : Int) (z : Int) (res : List Int) :
    ∀ (d j : Nat) (out : List Int) (c : Int), B.length - j = d → j ≤ B.length → i + B.length < out.length → out.length ≤ 4611686018427387904 → DL out → 0 ≤ c → c < 1000000 →
      (∀ out' c', DL out' → out'.length = out.length → 0 ≤ c' → c' < 1000000 → VL out' + Pw 1000000 (i + B.length) * c' = VL out + Pw 1000000 (i + j) * c + x * (Vl 1000000 (B.drop j)) * Pw 1000000 (i + j) → Ev (fun k => coxswainref04_square.l2 k B out' c' ((i + B.length : Nat) : Int) A T z) res) →
      Ev (fun k => coxswainref04_square.l1 k B out (i : Int) x c A T z B (B.length : Int) (j : Int)) res := by
  intro d
  induction d with
  | zero =>
    intro j out c hd hj hlen hl hdo h0 h1 hG
    obtain rfl : j = B.length := by omega
    refine Ev.step (f := fun k => coxswainref04_square.l2 k B out c ((i + B.length : Nat) : Int) A T z) (fun k => ?_) ?_
    · simp only [coxswainref04_square.l1]
      rw [if_neg (by omega), show wrap64 ((i : Int) + (B.length : Int)) = ((i + B.length : Nat) : Int) from by rw [w64 (by omega) (by omega)]; omega]
    · refine hG out c hdo rfl h0 h1 ?_
      rw [List.drop_of_length_le (by omega)]
      simp [Vl]
  | succ d ih =>
    intro j out c hd hj hlen hl hdo h0 h1 hG
    have hjB : j < B.length := by omega
    have hy := hB.get j hjB
    have hij : i + j < out.length := by omega
    have ho := hdo.get (i + j) hij
    generalize hyv : B[j] = y at hy
    generalize hov : out[i + j] = o at ho
    have hm : 0 ≤ x * y := Int.mul_nonneg hx0 hy.1
    have hm2 : x * y ≤ 999999 * 999999 := Int.mul_le_mul (by omega) (by omega) hy.1 (by omega)
    refine Ev.step (f := fun k => coxswainref04_square.l1 k B (out.set (i + j) ((o + x * y + c) % 1000000)) (i : Int) x ((o + x * y + c) / 1000000) A T z B (B.length : Int) ((j + 1 : Nat) : Int)) (fun k => ?_) ?_
    · conv => lhs; simp only [coxswainref04_square.l1]
      rw [if_pos (by omega), if_pos (by omega), if_pos (by omega)]
      rw [show wrap64 ((i : Int) + (j : Int)) = ((i + j : Nat) : Int) from by rw [w64 (by omega) (by omega)]; omega]
      rw [if_pos (by omega), if_pos (by omega), rd_get B j hjB, rd_get out (i + j) hij, hyv, hov]
      rw [w64 (x := x * y) (by omega) (by omega), w64 (x := o + x * y) (by omega) (by omega), w64 (x := o + x * y + c) (by omega) (by omega), Int.tmod_eq_emod_of_nonneg (by omega), Int.tdiv_eq_ediv_of_nonneg (by omega), w64 (x := (o + x * y + c) / 1000000) (by omega) (by omega)]
      rw [show wrap64 ((j : Int) + 1) = ((j + 1 : Nat) : Int) from by rw [w64 (by omega) (by omega)]; omega]
      rfl
    · have hq : (o + x * y + c) = 1000000 * ((o + x * y + c) / 1000000) + (o + x * y + c) % 1000000 := by omega
      have hq0 : 0 ≤ (o + x * y + c) / 1000000 := by omega
      have hq1 : (o + x * y + c) / 1000000 < 1000000 := by omega
      have hs0 : 0 ≤ (o + x * y + c) % 1000000 := by omega
      have hs1 : (o + x * y + c) % 1000000 < 1000000 := by omega
      generalize (o + x * y + c) / 1000000 = q at *
      generalize (o + x * y + c) % 1000000 = s at *
      refine ih (j + 1) _ _ (by omega) (by omega) (by simp; omega) (by simp; omega) (hdo.set _ hs0 hs1) hq0 hq1 ?_
      intro out' c' hd' hl' g0 g1 hv'
      refine hG out' c' hd' (by simpa using hl') g0 g1 ?_
      rw [hv']
      rw [show VL (out.set (i + j) s) = VL out + (s - out[i + j]) * Pw 1000000 (i + j) from Vl_set _ _ _ hij _, hov]
      rw [Vl_drop 1000000 B j hjB, hyv]
      have e4 : Pw 1000000 (i + (j + 1)) = 1000000 * Pw 1000000 (i + j) := rfl
      rw [e4]
      generalize Vl 1000000 (B.drop (j + 1)) = v
      generalize Pw 1000000 (i + j) = p
      grind
theorem E_square (a : Nat) (ha : (L a).length ≤ 1000000) : Ev (fun k => coxswainref04_square.f k (L a)) (L (a * a)) := by
  have hsq : ((a * a : Nat) : Int) < Pw 1000000 (2 * (L a).length + 1) := by
    have h := (Vl_bd (DL_L a)).2
    rw [show Vl 1000000 (L a) = (a : Int) from VL_L a] at h
    have h2 : (a : Int) < Pw 1000000 (L a).length := h
    rw [L_pw] at h2 ⊢
    have h3 : a < 1000000 ^ (L a).length := Int.ofNat_lt.1 h2
    have h4 := Nat.mul_lt_mul'' h3 h3
    rw [← Nat.pow_add] at h4
    have h5 : 1000000 ^ ((L a).length + (L a).length) ≤ 1000000 ^ (2 * (L a).length + 1) := Nat.pow_le_pow_right (by omega) (by omega)
    exact Int.ofNat_lt.2 (Nat.lt_of_lt_of_le h4 h5)
  have tr : ∀ (l : List Int), l.length ≤ 4611686018427387904 → DL l → Ev (fun k => coxswainref04_square.l3 k l) (L (VL l).toNat) := fun l hl hd =>
    trim_gen 1000000 (by omega) coxswainref04_square.l3 (fun _ _ => rfl) l.length l rfl hl hd
  have part : ∀ i, Vl 1000000 ((L a).take i) * a ≤ ((a * a : Nat) : Int) := by
    intro i
    have e := Vl_append 1000000 ((L a).take i) ((L a).drop i)
    rw [List.take_append_drop, show Vl 1000000 (L a) = (a : Int) from VL_L a] at e
    have h1 := (Vl_bd ((DL_L a).drop i)).1
    have hp := Pw_pos (b := 1000000) (by omega) ((L a).take i).length
    have := Int.mul_nonneg (Int.le_of_lt hp) h1
    rw [Int.natCast_mul]
    exact Int.mul_le_mul_of_nonneg_right (by omega) (by omega)
  have main : ∀ (d i : Nat) (out : List Int), (L a).length - i = d → i ≤ (L a).length → out.length = 2 * (L a).length + 1 → DL out → VL out = Vl 1000000 ((L a).take i) * a →
      Ev (fun k => coxswainref04_square.l0 k (L a) out (L a) ((L a).length : Int) (i : Int)) (L (a * a)) := by
    intro d
    induction d with
    | zero =>
      intro i out hd hi hl hdo hv
      rw [List.take_of_length_le (by omega), show Vl 1000000 (L a) = (a : Int) from VL_L a] at hv
      have h := tr out (by omega) hdo
      rw [hv, show ((a : Int) * (a : Int)).toNat = a * a by rw [← Int.natCast_mul]; exact Int.toNat_natCast _] at h
      refine Ev.step (f := fun k => coxswainref04_square.l3 k out) (fun k => by simp only [coxswainref04_square.l0]; rw [if_neg (by omega)]) h
    | succ d ih =>
      intro i out hd hi hl hdo hv
      have hiA : i < (L a).length := by omega
      have hx := (DL_L a).get i hiA
      refine Ev.step (f := fun k => coxswainref04_square.l1 k (L a) out (i : Int) ((L a)[i]) 0 (L a) ((L a).length : Int) (i : Int) (L a) ((L a).length : Int) ((0 : Nat) : Int)) (fun k => ?_) ?_
      · simp only [coxswainref04_square.l0]
        rw [if_pos (by omega), if_pos (by omega), if_pos (by omega), rd_get (L a) i hiA]
        rfl
      · refine sq_row (L a) (DL_L a) _ hx.1 hx.2 i (L a) _ _ _ _ 0 out 0 rfl (by omega) (by omega) (by omega) hdo (by omega) (by omega) ?_
        intro out' c' hd' hl' g0 g1 hv'
        have hnew : VL out + Pw 1000000 (i + 0) * 0 + (L a)[i] * Vl 1000000 ((L a).drop 0) * Pw 1000000 (i + 0) = Vl 1000000 ((L a).take (i + 1)) * a := by
          rw [hv, Vl_take_succ, List.drop_zero, show Vl 1000000 (L a) = (a : Int) from VL_L a]
          have : (L a)[i]?.getD 0 = (L a)[i] := by simp [hiA]
          rw [this, Nat.add_zero]
          generalize Vl 1000000 ((L a).take i) = v1
          generalize (L a)[i] = v3
          generalize Pw 1000000 i = v4
          grind
        rw [hnew] at hv'
        refine sq_carry (L a) (L a) _ _ _ (Vl 1000000 ((L a).take (i + 1)) * a) _ (i + (L a).length) out' c' rfl (by omega) (by omega) hd' g0 g1 hv' ?_ ?_
        · rw [hl', hl]
          have := part (i + 1)
          omega
        · intro out2 d2 l2 v2
          rw [show wrap64 ((i : Int) + 1) = ((i + 1 : Nat) : Int) from by rw [w64 (by omega) (by omega)]; omega]
          exact ih (i + 1) out2 (by omega) (by omega) (by omega) d2 v2
  have h := main _ 0 (List.replicate (2 * (L a).length + 1) 0) rfl (by omega) (by simp) (Dg.zeros (by omega) _) (by rw [show VL (List.replicate (2 * (L a).length + 1) 0) = 0 from Vl_zeros _ _]; simp [Vl])
  refine Ev.congr (fun k => ?_) h
  unfold coxswainref04_square.f
  rw [w64 (x := 2 * ((L a).length : Int)) (by omega) (by omega), show wrap64 (2 * ((L a).length : Int) + 1) = ((2 * (L a).length + 1 : Nat) : Int) from by rw [w64 (by omega) (by omega)]; omega]
  rw [if_pos (by omega), if_pos (by omega), Int.toNat_natCast]
  rfl
theorem E_half (a j : Nat) (hj : j ≤ 30) (ha : (L a).length ≤ 1000000) : Ev (fun k => coxswainref04_half.f k (L a) (j : Int)) (L (a / 2 ^ j)) := by
  have hd30 : 2 ^ j ≤ 2 ^ 30 := Nat.pow_le_pow_right (by omega) hj
  have hd0 : 0 < 2 ^ j := Nat.two_pow_pos j
  generalize hD : 2 ^ j = D at *
  have tr : ∀ (l : List Int), l.length ≤ 4611686018427387904 → DL l → Ev (fun k => coxswainref04_half.l2 k l) (L (VL l).toNat) := fun l hl hd =>
    trim_gen 1000000 (by omega) coxswainref04_half.l2 (fun _ _ => rfl) l.length l rfl hl hd
  have main : ∀ (i : Nat) (out : List Int) (rest : Int), i ≤ (L a).length → out.length = (L a).length → DL out → 0 ≤ rest → rest < D →
      Vl 1000000 ((L a).drop i) = Vl 1000000 (out.drop i) * D + rest →
      Ev (fun k => coxswainref04_half.l1 k (L a) (D : Int) out rest ((i : Int) - 1)) (L (a / D)) := by
    intro i
    induction i with
    | zero =>
      intro out rest hi hl hdo h0 h1 hv
      rw [List.drop_zero, List.drop_zero, show Vl 1000000 (L a) = (a : Int) from VL_L a] at hv
      have e1 : Vl 1000000 out = ((a / D : Nat) : Int) := by
        rw [Int.natCast_ediv, hv, Int.add_comm, Int.add_mul_ediv_right _ _ (by omega), Int.ediv_eq_zero_of_lt h0 h1, Int.zero_add]
      have h := tr out (by omega) hdo
      rw [show VL out = ((a / D : Nat) : Int) from e1, Int.toNat_natCast] at h
      exact Ev.step (f := fun k => coxswainref04_half.l2 k out) (fun k => by simp only [coxswainref04_half.l1]; rw [if_neg (by omega)]) h
    | succ i ih =>
      intro out rest hi hl hdo h0 h1 hv
      have hiA : i < (L a).length := by omega
      have hx := (DL_L a).get i hiA
      generalize hxv : (L a)[i] = x at hx
      have hA : 0 ≤ 1000000 * rest + x := by omega
      have q0 : 0 ≤ (1000000 * rest + x) / D := Int.ediv_nonneg hA (by omega)
      have q1 : (1000000 * rest + x) / D < 1000000 := Int.ediv_lt_of_lt_mul (by omega) (by omega)
      have r0 := Int.emod_nonneg (1000000 * rest + x) (show (D : Int) ≠ 0 by omega)
      have r1 := Int.emod_lt_of_pos (1000000 * rest + x) (show 0 < (D : Int) by omega)
      have hdm := Int.emod_add_mul_ediv (1000000 * rest + x) D
      refine Ev.step (f := fun k => coxswainref04_half.l1 k (L a) (D : Int) (out.set i ((1000000 * rest + x) / D)) ((1000000 * rest + x) % D) ((i : Int) - 1)) (fun k => ?_) ?_
      · conv => lhs; simp only [coxswainref04_half.l1]
        rw [show ((i + 1 : Nat) : Int) - 1 = (i : Int) by omega]
        rw [if_pos (by omega), if_pos (by omega), if_pos (by omega), if_neg (by omega), if_pos (by omega), rd_get (L a) i hiA, hxv]
        rw [w64 (x := 1000000 * rest) (by omega) (by omega), w64 (x := 1000000 * rest + x) (by omega) (by omega), Int.tdiv_eq_ediv_of_nonneg hA, Int.tmod_eq_emod_of_nonneg hA, w64 (x := (1000000 * rest + x) / D) (by omega) (by omega), w64 (by omega) (by omega)]
        rfl
      · refine ih _ _ (by omega) (by simp; omega) (hdo.set _ q0 q1) r0 r1 ?_
        rw [Vl_drop 1000000 (L a) i hiA, hxv, hv]
        rw [Vl_drop 1000000 (out.set i ((1000000 * rest + x) / D)) i (by simp; omega)]
        rw [List.getElem_set_self, List.drop_set_of_lt (by omega)]
        generalize Vl 1000000 (out.drop (i + 1)) = v
        generalize (1000000 * rest + x) / (D : Int) = q at *
        generalize (1000000 * rest + x) % (D : Int) = r at *
        grind
  have h := main (L a).length (List.replicate (L a).length 0) 0 (Nat.le_refl _) (by simp) (Dg.zeros (by omega) _) (by omega) (by omega) (by rw [List.drop_of_length_le (by omega), List.drop_of_length_le (by simp)]; simp [Vl])
  have up : ∀ (d i : Nat), j - i = d → i ≤ j → Ev (fun k => coxswainref04_half.l0 k (L a) (j : Int) ((2 ^ i : Nat) : Int) (i : Int)) (L (a / D)) := by
    intro d
    induction d with
    | zero =>
      intro i hd hi
      obtain rfl : i = j := by omega
      rw [hD]
      refine Ev.step (f := fun k => coxswainref04_half.l1 k (L a) (D : Int) (List.replicate (L a).length 0) 0 (((L a).length : Int) - 1)) (fun k => ?_) h
      simp only [coxswainref04_half.l0]
      rw [if_neg (by omega), if_pos (by omega), Int.toNat_natCast, if_pos (by omega), w64 (by omega) (by omega)]
    | succ d ih =>
      intro i hd hi
      have h30 : 2 ^ i ≤ 2 ^ 30 := Nat.pow_le_pow_right (by omega) (by omega)
      refine Ev.step (f := fun k => coxswainref04_half.l0 k (L a) (j : Int) ((2 ^ (i + 1) : Nat) : Int) ((i + 1 : Nat) : Int)) (fun k => ?_) (ih (i + 1) (by omega) (by omega))
      have e : ((2 ^ (i + 1) : Nat) : Int) = 2 * ((2 ^ i : Nat) : Int) := by rw [Nat.pow_succ]; omega
      have g0 : (0 : Int) ≤ ((2 ^ i : Nat) : Int) := Int.natCast_nonneg _
      have g1 : ((2 ^ i : Nat) : Int) ≤ 1073741824 := Int.ofNat_le.2 h30
      conv => lhs; simp only [coxswainref04_half.l0]
      rw [e]
      generalize ((2 ^ i : Nat) : Int) = m at *
      rw [if_pos (by omega), w64 (x := 2 * m) (by omega) (by omega), show wrap64 ((i : Int) + 1) = ((i + 1 : Nat) : Int) from by rw [w64 (by omega) (by omega)]; omega]
  have := up j 0 rfl (by omega)
  unfold coxswainref04_half.f
  simpa using this
theorem lim_le {p : Nat} (hp : p < 18446744073709551616) (j : Nat) (hj : j ≤ 8) : (L (p ^ (2 ^ j))).length ≤ 2048 := by
  have h1 : p < 1000000 ^ 4 := by omega
  have h2 := Nat.pow_lt_pow_left h1 (show 2 ^ j ≠ 0 from Nat.ne_of_gt (Nat.two_pow_pos j))
  rw [← Nat.pow_mul] at h2
  have := L_len h2
  have h3 : 2 ^ j ≤ 2 ^ 8 := Nat.pow_le_pow_right (by omega) hj
  omega
theorem E_rlog (p : Nat) (hp : p < 18446744073709551616) : Ev (fun k => coxswainref04_Log.f k (p : Int)) (lg p : Int) := by
  by_cases hz : p = 0
  · subst hz
    have z0 : lg 0 = 0 := by rw [show lg 0 = bl (0 ^ 256) - 1 from rfl, Nat.zero_pow (by omega), bl_zero]
    unfold coxswainref04_Log.f
    refine Ev.congr (fun k => if_pos (by simp)) ?_
    rw [z0]
    exact Ev.now _
  · obtain ⟨e8, he8⟩ : ∃ e, e = 8 := ⟨8, rfl⟩
    have h8 : 2 ^ e8 = 256 := by rw [he8]
    generalize hX : p ^ 256 = X
    have hX0 : X ≠ 0 := by rw [← hX]; exact Nat.ne_of_gt (Nat.pow_pos (by omega))
    have hlX : (L X).length ≤ 2048 := by have := lim_le hp e8 (by omega); rw [h8, hX] at this; exact this
    have lenx : ∀ x, x ≤ X → (L x).length ≤ 2048 := by
      intro x hx
      have h := (Vl_bd (DL_L X)).2
      rw [show Vl 1000000 (L X) = (X : Int) from VL_L X] at h
      have h2 : (X : Int) < Pw 1000000 (L X).length := h
      rw [L_pw] at h2
      have h3 : X < 1000000 ^ (L X).length := Int.ofNat_lt.1 h2
      have := L_len (Nat.lt_of_le_of_lt hx h3)
      omega
    have hbX : bl X ≤ 16384 := by
      have := lg_le p hp
      unfold lg at this
      rw [hX] at this
      omega
    -- halving by 2^j as long as something is left
    have halve : ∀ (j : Nat), 1 ≤ j → j ≤ 30 → ∀ (r : Int) (v : Int), (∀ x n, x ≤ X → x ≠ 0 → bl x ≤ j → n + (bl x : Int) = (bl X : Int) → 0 ≤ n → Ev (fun k => coxswainref04_Log.l1 k (L x) n [30, 1] 2 (wrap64 (v + 1))) r) →
        ∀ x n, x ≤ X → x ≠ 0 → n + (bl x : Int) = (bl X : Int) → 0 ≤ n → Ev (fun k => coxswainref04_Log.l2 k (L x) n (j : Int) [30, 1] 2 v) r := by
      intro j hj1 hj r v hnext x
      induction x using Nat.strongRecOn with
      | _ x ih =>
        intro n hx hx0 hn hn0
        have hh := E_half x j hj (by have := lenx x hx; omega)
        by_cases hs : x / 2 ^ j = 0
        · rw [hs] at hh
          have hlt : x < 2 ^ j := (Nat.div_eq_zero_iff_lt (Nat.two_pow_pos j)).1 hs
          refine Ev.step (f := fun k => (coxswainref04_half.f k (L x) (j : Int)).bind fun t => if (t.length : Int) = 0 then coxswainref04_Log.l1 k (L x) n [30, 1] 2 (wrap64 (v + 1)) else coxswainref04_Log.l2 k t (wrap64 (n + j)) (j : Int) [30, 1] 2 v) (fun k => by simp only [coxswainref04_Log.l2]) (Ev.bind hh ?_)
          refine Ev.congr (fun k => if_pos (by simp [Ds_zero])) ?_
          exact hnext x n hx hx0 (bl_le hlt) hn hn0
        · have hge : 2 ^ j ≤ x := by
            by_cases h : 2 ^ j ≤ x
            · exact h
            · exact absurd (Nat.div_eq_of_lt (by omega)) hs
          have hb := bl_shift j x hge
          have hlt : x / 2 ^ j < x := Nat.div_lt_self (by omega) (by have := Nat.pow_le_pow_right (show 0 < 2 by omega) hj1; omega)
          refine Ev.step (f := fun k => (coxswainref04_half.f k (L x) (j : Int)).bind fun t => if (t.length : Int) = 0 then coxswainref04_Log.l1 k (L x) n [30, 1] 2 (wrap64 (v + 1)) else coxswainref04_Log.l2 k t (wrap64 (n + j)) (j : Int) [30, 1] 2 v) (fun k => by simp only [coxswainref04_Log.l2]) (Ev.bind hh ?_)
          refine Ev.congr (fun k => if_neg (fun h => hs ((L_zero_iff _).1 (by omega)))) ?_
          rw [w64 (x := n + j) (by omega) (by omega)]
          exact ih _ hlt (n + j) (by omega) hs (by omega) (by omega)
    have l1end : ∀ x n, Ev (fun k => coxswainref04_Log.l1 k (L x) n [30, 1] 2 2) n := by
      intro x n
      exact Ev.step (f := fun _ => some n) (fun k => by simp only [coxswainref04_Log.l1]; rw [if_neg (by omega)]) (Ev.now _)
    have second : ∀ x n, x ≤ X → x ≠ 0 → n + (bl x : Int) = (bl X : Int) → 0 ≤ n → Ev (fun k => coxswainref04_Log.l1 k (L x) n [30, 1] 2 1) (lg p : Int) := by
      intro x n hx hx0 hn hn0
      refine Ev.step (f := fun k => coxswainref04_Log.l2 k (L x) n ((1 : Nat) : Int) [30, 1] 2 1) (fun k => by simp only [coxswainref04_Log.l1]; rw [if_pos (by omega), if_pos (by omega), if_pos (by simp)]; rfl) ?_
      refine halve 1 (by omega) (by omega) _ 1 ?_ x n hx hx0 hn hn0
      intro x n hx hx0 hb hn hn0
      have h3 := (bl_spec hx0).2.2
      have : n = (lg p : Int) := by unfold lg; rw [hX]; omega
      rw [show wrap64 (1 + 1) = 2 from by unfold wrap64; omega, this]
      exact l1end x _
    have first : Ev (fun k => coxswainref04_Log.l1 k (L X) 0 [30, 1] 2 0) (lg p : Int) := by
      refine Ev.step (f := fun k => coxswainref04_Log.l2 k (L X) 0 ((30 : Nat) : Int) [30, 1] 2 0) (fun k => by simp only [coxswainref04_Log.l1]; rw [if_pos (by omega), if_pos (by omega), if_pos (by simp)]; rfl) ?_
      refine halve 30 (by omega) (by omega) _ 0 ?_ X 0 (Nat.le_refl _) hX0 (by omega) (by omega)
      intro x n hx hx0 hb hn hn0
      rw [show wrap64 (0 + 1) = 1 from by unfold wrap64; omega]
      exact second x n hx hx0 hn hn0
    have main : ∀ (d j : Nat), 8 - j = d → j ≤ 8 → Ev (fun k => coxswainref04_Log.l0 k (L (p ^ (2 ^ j))) (j : Int)) (lg p : Int) := by
      intro d
      induction d with
      | zero =>
        intro j hd hj
        have hj8 : 2 ^ j = 256 := by rw [show j = 8 by omega]
        rw [hj8, hX]
        refine Ev.step (f := fun k => coxswainref04_Log.l1 k (L X) 0 [30, 1] 2 0) (fun k => ?_) first
        simp only [coxswainref04_Log.l0]
        rw [if_neg (by omega)]
        rfl
      | succ d ih =>
        intro j hd hj
        have hm := E_square (p ^ (2 ^ j)) (by have := lim_le hp j hj; omega)
        have e : p ^ (2 ^ j) * p ^ (2 ^ j) = p ^ (2 ^ (j + 1)) := by rw [← Nat.pow_add, Nat.pow_succ]; congr 1; omega
        rw [e] at hm
        refine Ev.step (f := fun k => (coxswainref04_square.f k (L (p ^ (2 ^ j)))).bind fun t => coxswainref04_Log.l0 k t ((j + 1 : Nat) : Int)) (fun k => ?_) (Ev.bind hm (ih (j + 1) (by omega) (by omega)))
        simp only [coxswainref04_Log.l0]
        rw [if_pos (by omega), show wrap64 ((j : Int) + 1) = ((j + 1 : Nat) : Int) from by rw [w64 (by omega) (by omega)]; omega]
    have h := main 8 0 rfl (by omega)
    unfold coxswainref04_Log.f
    refine Ev.congr (fun k => if_neg (by omega)) ?_
    exact Ev.bind (E_limbs p hp) (by simpa using h)
theorem E_rgain (p : Nat) (hp : p < 18446744073709551616) (w : Int) (hw0 : -9223372036854775808 ≤ w) (hw1 : w ≤ 9223372036854775807) : Ev (fun k => coxswainref04_Of.f k (p : Int) w) (T (gn p w.toNat)) := by
  have hl := lg_le p hp
  have h1 := E_rof (lg p) (by omega)
  have h2 := E_rof w.toNat (by omega)
  have l1 : lg p < 10 ^ 5 := by omega
  have l2 : w.toNat < 10 ^ 19 := by omega
  have n1 := T_len l1
  have n2 := T_len l2
  have h3 := E_rmul (lg p) w.toNat (by omega) (by omega)
  have l3 := T_mul_len l1 l2
  have n3 := T_len l3
  have h4 := E_rdiv (lg p * w.toNat) 10 (by omega) (by omega) (by omega)
  have n4 := T_len (Nat.lt_of_le_of_lt (Nat.div_le_self (lg p * w.toNat) 10) l3)
  have h5 := E_radd (lg p) (lg p * w.toNat / 10) (by omega) (by omega)
  unfold coxswainref04_Of.f
  refine Ev.bind (E_rlog p hp) ?_
  rw [show IntKind.u64.wrap (lg p : Int) = (lg p : Int) from u64 (by omega) (by omega)]
  refine Ev.bind h1 ?_
  have em : IntKind.u64.wrap (mx w 0) = ((w.toNat : Nat) : Int) := by
    rw [u64 (by unfold mx; split <;> omega) (by unfold mx; split <;> omega)]
    unfold mx
    split <;> omega
  rw [em]
  refine Ev.bind h2 ?_
  refine Ev.bind h3 ?_
  refine Ev.bind h4 ?_
  exact Ev.bind h5 (Ev.now _)
end Go.Proofs.Ytclmdidgioggdaa.Num
