/- What the functions of nat come to, told by numbers: cutting off noughts, making, adding, multiplying. The conditions stand in each theorem. -/
import Derived.Test.YtclmdidgioggdaaNum
import Derived.Test.YtclmdidgioggdaaQx1
import Derived.Test.YtclmdidgioggdaaQx2
import Derived.Test.YtclmdidgioggdaaQx27
import Derived.Test.YtclmdidgioggdaaQx3
import Derived.Test.YtclmdidgioggdaaQx5
import Derived.Test.YtclmdidgioggdaaQx6
namespace Go.Proofs.Ytclmdidgioggdaa.Num
open Go.RowKit Go.Proofs.YtclmdidgioggdaaW.PrintWords Go.Proofs.Ytclmdidgioggdaa.Q
abbrev N (n : Nat) : List Int := Ds 4294967296 n
abbrev VN (l : List Int) : Int := Vl 4294967296 l
abbrev DN (l : List Int) : Prop := Dg 4294967296 l
abbrev PN (n : Nat) : Int := Pw 4294967296 n
theorem VN_N (n : Nat) : VN (N n) = n := Vl_Ds 4294967296 (by omega) n
theorem DN_N (n : Nat) : DN (N n) := Dg.Ds 4294967296 (by omega) n
theorem N_len {n k : Nat} (h : (n : Int) < PN k) : (N n).length ≤ k := Ds_lt 4294967296 (by omega) k n h
theorem N_zero_iff (n : Nat) : (N n).length = 0 ↔ n = 0 := by
  constructor
  · intro h
    have := VN_N n
    rw [List.length_eq_zero_iff.1 h] at this
    simp [Vl] at this
    omega
  · rintro rfl; simp [Ds_zero]
theorem E_trim (l : List Int) (hl : l.length ≤ 4611686018427387904) (hd : DN l) : Ev (fun k => nat_trim.f k l) (N (VN l).toNat) :=
  trim_gen 4294967296 (by omega) nat_trim.l0 (fun _ _ => rfl) l.length l rfl hl hd
theorem E_of (a : Nat) (ha : a < 18446744073709551616) : Ev (fun k => nat_Of.f k (a : Int)) (N a) := by
  have hd : DN [((a : Int)) % 4294967296, ((a : Int) / 4294967296) % 4294967296] := by
    intro x hx
    simp at hx
    rcases hx with rfl | rfl <;> omega
  have e : (VN [((a : Int)) % 4294967296, ((a : Int) / 4294967296) % 4294967296]).toNat = a := by
    simp [VN, Vl]
    omega
  have h := E_trim _ (by simp) hd
  rw [e] at h
  unfold nat_Of.f
  exact Ev.bind h (Ev.now _)
theorem getD_at (l : List Int) (i : Nat) : nat_Nat_at.f l (i : Int) = some (l[i]?.getD 0) := by
  unfold nat_Nat_at.f
  by_cases h : i < l.length
  · rw [if_pos (by omega), if_pos (by omega), rd_get l i h]
    simp [h]
  · rw [if_neg (by omega)]
    simp [h]
theorem DN_getD {l : List Int} (h : DN l) (i : Nat) : 0 ≤ l[i]?.getD 0 ∧ l[i]?.getD 0 ≤ 4294967295 := by
  by_cases hi : i < l.length
  · have := h.get i hi
    simp [hi]
    omega
  · simp [hi]
theorem mx_nat (a b : Nat) : mx (a : Int) (b : Int) = ((max a b : Nat) : Int) := by
  unfold mx
  split <;> omega
/-- the loop of a sum: 'done' holds what is told already -/
theorem E_add_l (a b : List Int) (ha : DN a) (hb : DN b) (m : Nat) (hm : m ≤ 4611686018427387904) (hva : a.length < m) (hvb : b.length < m) :
    ∀ (d i : Nat) (done : List Int) (c : Int), m - i = d → i ≤ m → done.length = i → DN done → 0 ≤ c → c ≤ 1 →
      VN done + PN i * c = VN (a.take i) + VN (b.take i) →
      Ev (fun k => nat_Nat_Add.l0 k (done ++ List.replicate (m - i) 0) c (m : Int) (i : Int) a b) (N (VN a + VN b).toNat) := by
  intro d
  induction d with
  | zero =>
    intro i done c hd hi hl hdn h0 h1 hv
    obtain rfl : i = m := by omega
    have ta : a.take i = a := List.take_of_length_le (by omega)
    have tb : b.take i = b := List.take_of_length_le (by omega)
    rw [ta, tb] at hv
    -- nothing is carried at the end
    have hA := (Vl_bd ha).2; have hB := (Vl_bd hb).2
    have hA0 := (Vl_bd ha).1; have hB0 := (Vl_bd hb).1
    have hD := Vl_bd hdn
    obtain ⟨j, rfl⟩ : ∃ j, i = j + 1 := ⟨i - 1, by omega⟩
    have mono : ∀ x y : Nat, x ≤ y → PN x ≤ PN y := by
      intro x y h
      obtain ⟨z, rfl⟩ := Nat.exists_eq_add_of_le h
      have := Pw_add 4294967296 x z
      have p := Pw_pos (b := 4294967296) (by omega) z
      have q := Pw_pos (b := 4294967296) (by omega) x
      show Pw 4294967296 x ≤ Pw 4294967296 (x + z)
      rw [this]
      have : Pw 4294967296 x * 1 ≤ Pw 4294967296 x * Pw 4294967296 z := Int.mul_le_mul_of_nonneg_left (by omega) (by omega)
      omega
    have m1 := mono a.length j (by omega)
    have m2 := mono b.length j (by omega)
    have ps : PN (j + 1) = 4294967296 * PN j := rfl
    have pj := Pw_pos (b := 4294967296) (by omega) j
    have hc : c = 0 := by
      rcases (show c = 0 ∨ c = 1 by omega) with h | h
      · exact h
      · exfalso
        rw [h] at hv
        have : PN (j + 1) * 1 = PN (j + 1) := Int.mul_one _
        show False
        simp only [VN, PN, DN] at *
        omega
    subst hc
    rw [Int.mul_zero, Int.add_zero] at hv
    have h := E_trim done (by omega) hdn
    rw [show VN done = VN a + VN b from hv] at h
    refine Ev.step (f := fun k => (nat_trim.f k done).bind fun t => some t) (fun k => by simp only [nat_Nat_Add.l0]; rw [if_neg (by omega), Nat.sub_self, List.replicate_zero, List.append_nil]) ?_
    exact Ev.bind h (Ev.now _)
  | succ d ih =>
    intro i done c hd hi hl hdn h0 h1 hv
    have hx := DN_getD ha i; have hy := DN_getD hb i
    generalize hxa : a[i]?.getD 0 = x at hx
    generalize hyb : b[i]?.getD 0 = y at hy
    have hset : (done ++ List.replicate (m - i) 0).set (((i : Int)) : Int).toNat ((x + y + c) % 4294967296) = (done ++ [(x + y + c) % 4294967296]) ++ List.replicate (m - (i + 1)) 0 := by
      have : m - i = (m - (i + 1)) + 1 := by omega
      rw [this, List.replicate_succ]
      simp [hl]
    refine Ev.step (f := fun k => nat_Nat_Add.l0 k ((done ++ [(x + y + c) % 4294967296]) ++ List.replicate (m - (i + 1)) 0) ((x + y + c) / 4294967296) (m : Int) ((i + 1 : Nat) : Int) a b) (fun k => ?_) ?_
    · simp only [nat_Nat_Add.l0]
      rw [if_pos (by omega), getD_at, getD_at, hxa, hyb]
      simp only [Option.bind_some, bits_Add32.f]
      rw [if_pos (by omega), if_pos (by simp [hl]; omega)]
      rw [show IntKind.u64.wrap x = x from u64 (by omega) (by omega), show IntKind.u64.wrap y = y from u64 (by omega) (by omega), show IntKind.u64.wrap c = c from u64 (by omega) (by omega), show IntKind.u64.wrap (x + y) = x + y from u64 (by omega) (by omega), show IntKind.u64.wrap (x + y + c) = x + y + c from u64 (by omega) (by omega)]
      rw [hset, show wrap64 ((i : Int) + 1) = ((i + 1 : Nat) : Int) from by rw [w64 (by omega) (by omega)]; omega]
      rw [show (x + y + c) / 4294967296 % 4294967296 = (x + y + c) / 4294967296 from by omega]
    · refine ih (i + 1) _ _ (by omega) (by omega) (by simp [hl]) (hdn.append (by intro z hz; simp at hz; omega)) (by omega) (by omega) ?_
      have e1 := Vl_take_succ 4294967296 a i
      have e2 := Vl_take_succ 4294967296 b i
      rw [hxa] at e1; rw [hyb] at e2
      show Vl 4294967296 (done ++ [(x + y + c) % 4294967296]) + Pw 4294967296 (i + 1) * ((x + y + c) / 4294967296) = Vl 4294967296 (a.take (i + 1)) + Vl 4294967296 (b.take (i + 1))
      have hv' : Vl 4294967296 done + Pw 4294967296 i * c = Vl 4294967296 (a.take i) + Vl 4294967296 (b.take i) := hv
      rw [e1, e2, Vl_append, hl]
      have hq : (x + y + c) = 4294967296 * ((x + y + c) / 4294967296) + (x + y + c) % 4294967296 := by omega
      generalize (x + y + c) / 4294967296 = q at *
      generalize (x + y + c) % 4294967296 = s at *
      have e3 : Vl 4294967296 [s] = s := by simp [Vl]
      have e4 : Pw 4294967296 (i + 1) = 4294967296 * Pw 4294967296 i := rfl
      rw [e3, e4]
      grind
theorem E_add (a b : Nat) (ha : (N a).length ≤ 1099511627776) (hb : (N b).length ≤ 1099511627776) : Ev (fun k => nat_Nat_Add.f k (N a) (N b)) (N (a + b)) := by
  have h := E_add_l (N a) (N b) (DN_N a) (DN_N b) (max (N a).length (N b).length + 1) (by omega) (by omega) (by omega) _ 0 [] 0 rfl (by omega) rfl (Dg.nil _) (by omega) (by omega) (by simp [Vl])
  rw [VN_N, VN_N, show ((a : Int) + b).toNat = a + b by omega] at h
  refine Ev.congr (fun k => ?_) h
  unfold nat_Nat_Add.f
  rw [mx_nat, show wrap64 (((max (N a).length (N b).length : Nat) : Int) + 1) = ((max (N a).length (N b).length + 1 : Nat) : Int) from by rw [w64 (by omega) (by omega)]; omega]
  rw [if_pos (by omega), if_pos (by omega)]
  simp
theorem Pw_mono (x y : Nat) (h : x ≤ y) : PN x ≤ PN y := by
  obtain ⟨z, rfl⟩ := Nat.exists_eq_add_of_le h
  have := Pw_add 4294967296 x z
  have p := Pw_pos (b := 4294967296) (by omega) z
  have q := Pw_pos (b := 4294967296) (by omega) x
  show Pw 4294967296 x ≤ Pw 4294967296 (x + z)
  rw [this]
  have : Pw 4294967296 x * 1 ≤ Pw 4294967296 x * Pw 4294967296 z := Int.mul_le_mul_of_nonneg_left (by omega) (by omega)
  omega
/-- one limb times a number, added from a place on -/
theorem mul_row (B : List Int) (hB : DN B) (x : Int) (hx0 : 0 ≤ x) (hx1 : x < 4294967296) (i : Nat) (A : List Int) (T : Int) (z : Int) :
    ∀ (d j : Nat) (out : List Int) (c : Int), B.length - j = d → j ≤ B.length → i + B.length < out.length → out.length ≤ 4611686018427387904 → DN out → 0 ≤ c → c < 4294967296 →
      ∀ (G : Nat → List Int → Option (List Int)) (res : List Int),
      (∀ k out c, nat_Nat_Mul.l1 (k + 1) out (i : Int) x c A T z B (B.length : Int) (B.length : Int) B = if (i + B.length : Nat) < out.length then G k (out.set (i + B.length) (c % 4294967296)) else none) →
      (∀ out', DN out' → out'.length = out.length → VN out' = VN out + PN (i + j) * c + x * (Vl 4294967296 (B.drop j)) * PN (i + j) - (out[i + B.length]?.getD 0) * PN (i + B.length) → (∀ q, i + B.length < q → out'[q]? = out[q]?) → Ev (fun k => G k out') res) →
      Ev (fun k => nat_Nat_Mul.l1 k out (i : Int) x c A T z B (B.length : Int) (j : Int) B) res := by
  intro d
  induction d with
  | zero =>
    intro j out c hd hj hlen hl hdo h0 h1 G res hend hG
    obtain rfl : j = B.length := by omega
    refine Ev.step (f := fun k => G k (out.set (i + B.length) (c % 4294967296))) (fun k => by rw [hend, if_pos hlen]) ?_
    have hc : c % 4294967296 = c := by omega
    rw [hc]
    refine hG _ (hdo.set _ h0 h1) (by simp) ?_ ?_
    · show Vl 4294967296 (out.set (i + B.length) c) = _
      rw [Vl_set _ _ _ hlen]
      have : (out[i + B.length]?.getD 0) = out[i + B.length] := by simp [hlen]
      rw [this, List.drop_of_length_le (by omega)]
      simp only [Vl]
      show Vl 4294967296 out + (c - out[i + B.length]) * Pw 4294967296 (i + B.length) = Vl 4294967296 out + Pw 4294967296 (i + B.length) * c + x * 0 * Pw 4294967296 (i + B.length) - out[i + B.length] * Pw 4294967296 (i + B.length)
      grind
    · intro q hq
      rw [List.getElem?_set_ne (by omega)]
  | succ d ih =>
    intro j out c hd hj hlen hl hdo h0 h1 G res hend hG
    have hjB : j < B.length := by omega
    have hy := hB.get j hjB
    have hij : i + j < out.length := by omega
    have ho := hdo.get (i + j) hij
    generalize hyv : B[j] = y at hy
    generalize hov : out[i + j] = o at ho
    have hm : 0 ≤ x * y := Int.mul_nonneg hx0 hy.1
    have hm2 : x * y ≤ 4294967295 * 4294967295 := Int.mul_le_mul (by omega) (by omega) hy.1 (by omega)
    refine Ev.step (f := fun k => nat_Nat_Mul.l1 k (out.set (i + j) ((x * y + o + c) % 4294967296)) (i : Int) x ((x * y + o + c) / 4294967296) A T z B (B.length : Int) ((j + 1 : Nat) : Int) B) (fun k => ?_) ?_
    · simp only [nat_Nat_Mul.l1]
      rw [if_pos (by omega), if_pos (by omega), if_pos (by omega)]
      rw [show wrap64 ((i : Int) + (j : Int)) = ((i + j : Nat) : Int) from by rw [w64 (by omega) (by omega)]; omega]
      rw [if_pos (by omega), if_pos (by omega), rd_get B j hjB, rd_get out (i + j) hij, hyv, hov]
      rw [show IntKind.u64.wrap x = x from u64 (by omega) (by omega), show IntKind.u64.wrap y = y from u64 (by omega) (by omega), show IntKind.u64.wrap o = o from u64 (by omega) (by omega), show IntKind.u64.wrap (x * y) = x * y from u64 (by omega) (by omega), show IntKind.u64.wrap (x * y + o) = x * y + o from u64 (by omega) (by omega), show IntKind.u64.wrap (x * y + o + c) = x * y + o + c from u64 (by omega) (by omega)]
      rw [show wrap64 ((j : Int) + 1) = ((j + 1 : Nat) : Int) from by rw [w64 (by omega) (by omega)]; omega]
      rfl
    · have hq : (x * y + o + c) = 4294967296 * ((x * y + o + c) / 4294967296) + (x * y + o + c) % 4294967296 := by omega
      have hq0 : 0 ≤ (x * y + o + c) / 4294967296 := by omega
      have hq1 : (x * y + o + c) / 4294967296 < 4294967296 := by omega
      have hs0 : 0 ≤ (x * y + o + c) % 4294967296 := by omega
      have hs1 : (x * y + o + c) % 4294967296 < 4294967296 := by omega
      generalize (x * y + o + c) / 4294967296 = q at *
      generalize (x * y + o + c) % 4294967296 = s at *
      refine ih (j + 1) _ _ (by omega) (by omega) (by simp; omega) (by simp; omega) (hdo.set _ hs0 hs1) hq0 hq1 G res hend ?_
      intro out' hd' hl' hv' hrest
      refine hG out' hd' (by simpa using hl') ?_ ?_
      · rw [hv']
        rw [show VN (out.set (i + j) s) = VN out + (s - out[i + j]) * PN (i + j) from Vl_set _ _ _ hij _, hov]
        rw [List.getElem?_set_ne (by omega)]
        rw [Vl_drop 4294967296 B j hjB, hyv]
        have e4 : PN (i + (j + 1)) = 4294967296 * PN (i + j) := rfl
        rw [e4]
        generalize Vl 4294967296 (B.drop (j + 1)) = v
        generalize PN (i + j) = p
        generalize PN (i + B.length) = p2
        generalize (out[i + B.length]?.getD 0) = w
        grind
      · intro q' hq'
        rw [hrest q' hq', List.getElem?_set_ne (by omega)]
theorem E_mul (a b : Nat) (ha : (N a).length ≤ 1099511627776) (hb : (N b).length ≤ 1099511627776) : Ev (fun k => nat_Nat_Mul.f k (N a) (N b)) (N (a * b)) := by
  have main : ∀ (d i : Nat) (out : List Int), (N a).length - i = d → i ≤ (N a).length → out.length = (N a).length + (N b).length → DN out → (∀ q, i + (N b).length ≤ q → out[q]?.getD 0 = 0) → VN out = Vl 4294967296 ((N a).take i) * VN (N b) →
      Ev (fun k => nat_Nat_Mul.l0 k out (N a) ((N a).length : Int) (i : Int) (N b)) (N (a * b)) := by
    intro d
    induction d with
    | zero =>
      intro i out hd hi hl hdo hz hv
      rw [List.take_of_length_le (by omega), show Vl 4294967296 (N a) = (a : Int) from VN_N a, VN_N] at hv
      have h := E_trim out (by omega) hdo
      rw [hv, show ((a : Int) * (b : Int)).toNat = a * b by rw [← Int.natCast_mul]; exact Int.toNat_natCast _] at h
      refine Ev.step (f := fun k => (nat_trim.f k out).bind fun t => some t) (fun k => by simp only [nat_Nat_Mul.l0]; rw [if_neg (by omega)]) ?_
      exact Ev.bind h (Ev.now _)
    | succ d ih =>
      intro i out hd hi hl hdo hz hv
      have hiA : i < (N a).length := by omega
      have hx := (DN_N a).get i hiA
      refine Ev.step (f := fun k => nat_Nat_Mul.l1 k out (i : Int) ((N a)[i]) 0 (N a) ((N a).length : Int) (i : Int) (N b) ((N b).length : Int) ((0 : Nat) : Int) (N b)) (fun k => ?_) ?_
      · simp only [nat_Nat_Mul.l0]
        rw [if_pos (by omega), if_pos (by omega), if_pos (by omega), rd_get (N a) i hiA]
        rfl
      · refine mul_row (N b) (DN_N b) _ hx.1 hx.2 i (N a) _ _ _ 0 out 0 rfl (by omega) (by omega) (by omega) hdo (by omega) (by omega) (fun k o => nat_Nat_Mul.l0 k o (N a) ((N a).length : Int) ((i + 1 : Nat) : Int) (N b)) _ ?_ ?_
        · intro k out c
          simp only [nat_Nat_Mul.l1]
          rw [if_neg (by omega)]
          rw [show wrap64 ((i : Int) + ((N b).length : Int)) = ((i + (N b).length : Nat) : Int) from by rw [w64 (by omega) (by omega)]; omega]
          rw [show wrap64 ((i : Int) + 1) = ((i + 1 : Nat) : Int) from by rw [w64 (by omega) (by omega)]; omega]
          rw [if_pos (by omega)]
          by_cases h : (i + (N b).length : Nat) < out.length
          · rw [if_pos (by omega), if_pos h]; rfl
          · rw [if_neg (by omega), if_neg h]
        · intro out' hd' hl' hv' hrest
          refine ih (i + 1) out' (by omega) (by omega) (by omega) hd' ?_ ?_
          · intro q hq
            rw [hrest q (by omega)]
            exact hz q (by omega)
          · rw [hv', hv, hz (i + (N b).length) (by omega), Vl_take_succ]
            have : (N a)[i]?.getD 0 = (N a)[i] := by simp [hiA]
            rw [this]
            show _ = (Vl 4294967296 ((N a).take i) + PN i * (N a)[i]) * VN (N b)
            simp only [Nat.add_zero, List.drop_zero]
            show Vl 4294967296 ((N a).take i) * VN (N b) + PN i * 0 + (N a)[i] * VN (N b) * PN i - 0 * PN (i + (N b).length) = _
            generalize Vl 4294967296 ((N a).take i) = v1
            generalize VN (N b) = v2
            generalize (N a)[i] = v3
            generalize PN i = v4
            grind
  have h := main _ 0 (List.replicate ((N a).length + (N b).length) 0) rfl (by omega) (by simp) (Dg.zeros (by omega) _) (by intro q _; by_cases h : q < (N a).length + (N b).length <;> simp [h]) (by rw [show VN (List.replicate ((N a).length + (N b).length) 0) = 0 from Vl_zeros _ _]; simp [Vl])
  refine Ev.congr (fun k => ?_) h
  unfold nat_Nat_Mul.f
  rw [show wrap64 (((N a).length : Int) + ((N b).length : Int)) = (((N a).length + (N b).length : Nat) : Int) from by rw [w64 (by omega) (by omega)]; omega]
  rw [if_pos (by omega), if_pos (by omega), Int.toNat_natCast]
  rfl
/-- division by a small number, from the top on -/
theorem E_div (a d : Nat) (hd0 : 0 < d) (hd : d < 4294967296) (ha : (N a).length ≤ 1099511627776) : Ev (fun k => nat_Nat_Div.f k (N a) (d : Int)) (N (a / d), ((a % d : Nat) : Int), true) := by
  have main : ∀ (i : Nat) (out : List Int) (rest : Int), i ≤ (N a).length → out.length = (N a).length → DN out → (∀ q, q < i → out[q]?.getD 0 = 0) → 0 ≤ rest → rest < d →
      Vl 4294967296 ((N a).drop i) = Vl 4294967296 (out.drop i) * d + rest →
      Ev (fun k => nat_Nat_Div.l0 k (d : Int) out rest ((i : Int) - 1) (N a)) (N (a / d), ((a % d : Nat) : Int), true) := by
    intro i
    induction i with
    | zero =>
      intro out rest hi hl hdo hz h0 h1 hv
      rw [List.drop_zero, List.drop_zero, show Vl 4294967296 (N a) = (a : Int) from VN_N a] at hv
      have hq := (Vl_bd hdo).1
      have e1 : Vl 4294967296 out = ((a / d : Nat) : Int) := by
        rw [Int.natCast_ediv, hv, Int.add_comm, Int.add_mul_ediv_right _ _ (by omega), Int.ediv_eq_zero_of_lt h0 h1, Int.zero_add]
      have e2 : rest = ((a % d : Nat) : Int) := by
        rw [Int.natCast_emod, hv, Int.add_comm, Int.add_mul_emod_self_right]
        exact (Int.emod_eq_of_lt h0 h1).symm
      have h := E_trim out (by omega) hdo
      rw [show VN out = ((a / d : Nat) : Int) from e1, Int.toNat_natCast] at h
      refine Ev.step (f := fun k => (nat_trim.f k out).bind fun t => some (t, rest, true)) (fun k => by simp only [nat_Nat_Div.l0]; rw [if_neg (by omega)]) ?_
      rw [← e2]
      exact Ev.bind h (Ev.now _)
    | succ i ih =>
      intro out rest hi hl hdo hz h0 h1 hv
      have hiA : i < (N a).length := by omega
      have hx := (DN_N a).get i hiA
      generalize hxv : (N a)[i] = x at hx
      have hA : 0 ≤ rest * 4294967296 + x := by omega
      have q0 : 0 ≤ (rest * 4294967296 + x) / d := Int.ediv_nonneg hA (by omega)
      have q1 : (rest * 4294967296 + x) / d < 4294967296 := Int.ediv_lt_of_lt_mul (by omega) (by
        have : rest * 4294967296 + 4294967296 ≤ d * 4294967296 := by omega
        have : 4294967296 * (d : Int) = d * 4294967296 := Int.mul_comm _ _
        omega)
      have r0 := Int.emod_nonneg (rest * 4294967296 + x) (show (d : Int) ≠ 0 by omega)
      have r1 := Int.emod_lt_of_pos (rest * 4294967296 + x) (show 0 < (d : Int) by omega)
      have hdm := Int.emod_add_mul_ediv (rest * 4294967296 + x) d
      refine Ev.step (f := fun k => nat_Nat_Div.l0 k (d : Int) (out.set i ((rest * 4294967296 + x) / d)) ((rest * 4294967296 + x) % d) ((i : Int) - 1) (N a)) (fun k => ?_) ?_
      · simp only [nat_Nat_Div.l0]
        rw [show ((i + 1 : Nat) : Int) - 1 = (i : Int) by omega]
        rw [if_pos (by omega), if_pos (by omega), if_pos (by omega), rd_get (N a) i hiA, hxv]
        simp only [bits_Div32.f]
        rw [if_pos ⟨h0, by omega, by omega, h1, by omega⟩]
        simp only [Option.bind_some]
        rw [if_pos (by omega), w64 (by omega) (by omega)]
        rfl
      · refine ih _ _ (by omega) (by simp; omega) (hdo.set _ q0 q1) ?_ r0 r1 ?_
        · intro q hq
          rw [List.getElem?_set_ne (by omega)]
          exact hz q (by omega)
        · rw [Vl_drop 4294967296 (N a) i hiA, hxv, hv]
          rw [Vl_drop 4294967296 (out.set i ((rest * 4294967296 + x) / d)) i (by simp; omega)]
          rw [List.getElem_set_self, List.drop_set_of_lt (by omega)]
          generalize Vl 4294967296 (out.drop (i + 1)) = v
          generalize (rest * 4294967296 + x) / (d : Int) = q at *
          generalize (rest * 4294967296 + x) % (d : Int) = r at *
          grind
  have h := main (N a).length (List.replicate (N a).length 0) 0 (Nat.le_refl _) (by simp) (Dg.zeros (by omega) _) (by intro q hq; simp [hq]) (by omega) (by omega) (by rw [List.drop_of_length_le (by omega), List.drop_of_length_le (by simp)]; simp [Vl])
  refine Ev.congr (fun k => ?_) h
  unfold nat_Nat_Div.f
  rw [if_neg (by omega), if_pos (by omega), Int.toNat_natCast, if_pos (by omega), w64 (by omega) (by omega)]
theorem E_zero (a : Nat) : nat_Nat_Zero.f (N a) = some (decide (a = 0)) := by
  unfold nat_Nat_Zero.f
  have := N_zero_iff a
  by_cases h : a = 0
  · simp [h, Ds_zero]
  · have h2 : (N a).length ≠ 0 := fun e => h (this.1 e)
    simp [h]
    intro e
    exact h2 (by rw [e]; rfl)
theorem cmp_digits {l m : List Int} (hl : DN l) (hm : DN m) (i : Nat) (hx : l[i]?.getD 0 < m[i]?.getD 0) (he : Vl 4294967296 (l.drop (i + 1)) = Vl 4294967296 (m.drop (i + 1))) : VN l < VN m := by
  have split : ∀ (q : List Int), VN q = Vl 4294967296 (q.take (i + 1)) + PN (i + 1) * Vl 4294967296 (q.drop (i + 1)) := by
    intro q
    by_cases h : i + 1 ≤ q.length
    · have := Vl_append 4294967296 (q.take (i + 1)) (q.drop (i + 1))
      rw [List.take_append_drop] at this
      rw [show VN q = Vl 4294967296 q from rfl, this]
      simp [Nat.min_eq_left h]
    · rw [List.take_of_length_le (by omega), List.drop_of_length_le (by omega)]
      simp [Vl]
  rw [split l, split m, he, Vl_take_succ, Vl_take_succ]
  have bl : Vl 4294967296 (l.take i) < PN i := by
    have h1 := (Vl_bd (hl.take i)).2
    have h2 := Pw_mono (l.take i).length i (by simp; omega)
    show Vl 4294967296 (l.take i) < Pw 4294967296 i
    have h2' : Pw 4294967296 (l.take i).length ≤ Pw 4294967296 i := h2
    omega
  have bm := (Vl_bd (hm.take i)).1
  have pp := Pw_pos (b := 4294967296) (by omega) i
  have : PN i * (l[i]?.getD 0 + 1) ≤ PN i * (m[i]?.getD 0) := Int.mul_le_mul_of_nonneg_left (by omega) (Int.le_of_lt pp)
  rw [Int.mul_add, Int.mul_one] at this
  show Vl 4294967296 (l.take i) + PN i * (l[i]?.getD 0) + _ < Vl 4294967296 (m.take i) + PN i * (m[i]?.getD 0) + _
  omega
theorem E_cmp (a b : Nat) (ha : (N a).length ≤ 1099511627776) (hb : (N b).length ≤ 1099511627776) : Ev (fun k => nat_Nat_Cmp.f k (N a) (N b)) (if a < b then -1 else if b < a then 1 else 0) := by
  have main : ∀ (i : Nat), i ≤ max (N a).length (N b).length → Vl 4294967296 ((N a).drop i) = Vl 4294967296 ((N b).drop i) → Ev (fun k => nat_Nat_Cmp.l0 k ((i : Int) - 1) (N a) (N b)) (if a < b then -1 else if b < a then 1 else 0) := by
    intro i
    induction i with
    | zero =>
      intro _ hv
      rw [List.drop_zero, List.drop_zero, show Vl 4294967296 (N a) = (a : Int) from VN_N a, show Vl 4294967296 (N b) = (b : Int) from VN_N b] at hv
      refine Ev.step (f := fun _ => some (if a < b then (-1 : Int) else if b < a then 1 else 0)) (fun k => ?_) (Ev.now _)
      simp only [nat_Nat_Cmp.l0]
      rw [if_neg (by omega), if_neg (by omega), if_neg (by omega)]
    | succ i ih =>
      intro hi hv
      rcases Int.lt_trichotomy ((N a)[i]?.getD 0) ((N b)[i]?.getD 0) with h | h | h
      · have := cmp_digits (DN_N a) (DN_N b) i h hv
        rw [VN_N, VN_N] at this
        refine Ev.step (f := fun _ => some (if a < b then (-1 : Int) else if b < a then 1 else 0)) (fun k => ?_) (Ev.now _)
        simp only [nat_Nat_Cmp.l0]
        rw [show ((i + 1 : Nat) : Int) - 1 = (i : Int) by omega, if_pos (by omega), getD_at, getD_at]
        simp only [Option.bind_some]
        rw [if_pos h, if_pos (by omega)]
      · refine Ev.step (f := fun k => nat_Nat_Cmp.l0 k ((i : Int) - 1) (N a) (N b)) (fun k => ?_) (ih (by omega) ?_)
        · conv => lhs; simp only [nat_Nat_Cmp.l0]
          rw [show ((i + 1 : Nat) : Int) - 1 = (i : Int) by omega, if_pos (by omega), getD_at, getD_at]
          simp only [Option.bind_some]
          rw [if_neg (by omega), if_neg (by omega), w64 (by omega) (by omega)]
        · have dr : ∀ q : List Int, Vl 4294967296 (q.drop i) = q[i]?.getD 0 + 4294967296 * Vl 4294967296 (q.drop (i + 1)) := by
            intro q
            by_cases h : i < q.length
            · rw [Vl_drop _ _ _ h]; simp [h]
            · rw [List.drop_of_length_le (by omega), List.drop_of_length_le (by omega)]; simp [h, Vl]
          rw [dr, dr, h, hv]
      · have := cmp_digits (DN_N b) (DN_N a) i h hv.symm
        rw [VN_N, VN_N] at this
        refine Ev.step (f := fun _ => some (if a < b then (-1 : Int) else if b < a then 1 else 0)) (fun k => ?_) (Ev.now _)
        simp only [nat_Nat_Cmp.l0]
        rw [show ((i + 1 : Nat) : Int) - 1 = (i : Int) by omega, if_pos (by omega), getD_at, getD_at]
        simp only [Option.bind_some]
        rw [if_neg (by omega), if_pos (by omega), if_neg (by omega), if_pos (by omega)]
  have h := main (max (N a).length (N b).length) (Nat.le_refl _) (by rw [List.drop_of_length_le (by omega), List.drop_of_length_le (by omega)])
  refine Ev.congr (fun k => ?_) h
  unfold nat_Nat_Cmp.f
  rw [mx_nat, w64 (by omega) (by omega)]
end Go.Proofs.Ytclmdidgioggdaa.Num
