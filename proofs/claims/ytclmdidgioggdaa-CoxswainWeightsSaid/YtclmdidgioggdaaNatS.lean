/- Differences and small numbers, of nat and of the reference. The conditions stand in each theorem. -/
import Derived.Test.YtclmdidgioggdaaNatB
import Derived.Test.YtclmdidgioggdaaRefA
import Derived.Test.YtclmdidgioggdaaQx30
import Derived.Test.YtclmdidgioggdaaQx37
import Derived.Test.YtclmdidgioggdaaQx38
import Derived.Test.YtclmdidgioggdaaQx41
import Derived.Test.YtclmdidgioggdaaQx42
namespace Go.Proofs.Ytclmdidgioggdaa.Num
open Go.RowKit Go.Proofs.YtclmdidgioggdaaW.PrintWords Go.Proofs.Ytclmdidgioggdaa.Q
theorem bsome {α β : Type} {o : Option α} {a : α} {f : α → Option β} {r : Option β} (h : o = some a) (h2 : f a = r) : o.bind f = r := by
  subst h; exact h2
theorem obs {α β : Type} {a : α} {f : α → Option β} : (some a).bind f = f a := bsome rfl rfl
theorem E_sub_l (a b : List Int) (ha : DN a) (hb : DN b) (hab : b.length ≤ a.length) (hle : VN b ≤ VN a) (hm : a.length ≤ 1099511627776) :
    ∀ (d i : Nat) (done : List Int) (c : Int), a.length - i = d → i ≤ a.length → done.length = i → DN done → 0 ≤ c → c ≤ 1 →
      VN done = VN (a.take i) - VN (b.take i) + PN i * c →
      Ev (fun k => nat_Nat_Sub.l0 k (done ++ List.replicate (a.length - i) 0) c (a.length : Int) (i : Int) a b) (N (VN a - VN b).toNat, true) := by
  intro d
  induction d with
  | zero =>
    intro i done c hd hi hl hdn h0 h1 hv
    obtain rfl : i = a.length := by omega
    have ta : a.take a.length = a := List.take_of_length_le (by omega)
    have tb : b.take a.length = b := List.take_of_length_le (by omega)
    rw [ta, tb] at hv
    have hA := Vl_bd ha; have hB := Vl_bd hb; have hD := Vl_bd hdn
    have hp := Pw_pos (b := 4294967296) (by omega) a.length
    rw [hl] at hD
    have hc : c = 0 := by
      rcases (show c = 0 ∨ c = 1 by omega) with h | h
      · exact h
      · exfalso
        rw [h, Int.mul_one] at hv
        simp only [VN, PN, DN] at *
        omega
    subst hc
    rw [Int.mul_zero, Int.add_zero] at hv
    have h := E_trim done (by omega) hdn
    rw [show VN done = VN a - VN b from hv] at h
    refine Ev.step (f := fun k => (nat_trim.f k done).bind fun t => some (t, true)) (fun k => by simp only [nat_Nat_Sub.l0]; rw [if_neg (by omega), Nat.sub_self, List.replicate_zero, List.append_nil]) ?_
    exact Ev.bind h (Ev.now _)
  | succ d ih =>
    intro i done c hd hi hl hdn h0 h1 hv
    have hx := DN_getD ha i; have hy := DN_getD hb i
    generalize hxa : a[i]?.getD 0 = x at hx
    generalize hyb : b[i]?.getD 0 = y at hy
    have hset : (done ++ List.replicate (a.length - i) 0).set (((i : Int)) : Int).toNat ((x - y - c) % 4294967296) = (done ++ [(x - y - c) % 4294967296]) ++ List.replicate (a.length - (i + 1)) 0 := by
      have : a.length - i = (a.length - (i + 1)) + 1 := by omega
      rw [this, List.replicate_succ]
      simp [hl]
    refine Ev.step (f := fun k => nat_Nat_Sub.l0 k ((done ++ [(x - y - c) % 4294967296]) ++ List.replicate (a.length - (i + 1)) 0) (if x < y + c then 1 else 0) (a.length : Int) ((i + 1 : Nat) : Int) a b) (fun k => ?_) ?_
    · simp only [nat_Nat_Sub.l0]
      rw [if_pos (by omega), getD_at, getD_at, hxa, hyb]
      simp only [obs, bits_Sub32.f]
      rw [if_pos ⟨hx.1, hx.2, hy.1, hy.2, h0, h1⟩]
      simp only [obs]
      rw [if_pos (by omega), if_pos (by simp [hl]; omega)]
      rw [hset, show wrap64 ((i : Int) + 1) = ((i + 1 : Nat) : Int) from by rw [w64 (by omega) (by omega)]; omega]
    · refine ih (i + 1) _ _ (by omega) (by omega) (by simp [hl]) (hdn.append (by intro z hz; simp at hz; omega)) (by split <;> omega) (by split <;> omega) ?_
      have e1 := Vl_take_succ 4294967296 a i
      have e2 := Vl_take_succ 4294967296 b i
      rw [hxa] at e1; rw [hyb] at e2
      show Vl 4294967296 (done ++ [(x - y - c) % 4294967296]) = Vl 4294967296 (a.take (i + 1)) - Vl 4294967296 (b.take (i + 1)) + Pw 4294967296 (i + 1) * (if x < y + c then 1 else 0)
      have hv' : Vl 4294967296 done = Vl 4294967296 (a.take i) - Vl 4294967296 (b.take i) + Pw 4294967296 i * c := hv
      rw [e1, e2, Vl_append, hl, hv']
      have hq : (x - y - c) % 4294967296 = x - y - c + 4294967296 * (if x < y + c then 1 else 0) := by split <;> omega
      have e3 : Vl 4294967296 [(x - y - c) % 4294967296] = (x - y - c) % 4294967296 := by simp [Vl]
      have e4 : Pw 4294967296 (i + 1) = 4294967296 * Pw 4294967296 i := rfl
      rw [e3, e4, hq]
      generalize (if x < y + c then (1 : Int) else 0) = q
      generalize Pw 4294967296 i = p
      generalize Vl 4294967296 (a.take i) = u
      generalize Vl 4294967296 (b.take i) = v
      grind
theorem N_len_le {a b : Nat} (h : a ≤ b) : (N a).length ≤ (N b).length := by
  have h1 := (Vl_bd (DN_N b)).2
  rw [show Vl 4294967296 (N b) = (b : Int) from VN_N b] at h1
  exact N_len (Int.lt_of_le_of_lt (Int.ofNat_le.2 h) h1)
theorem E_sub (a b : Nat) (ha : (N a).length ≤ 1099511627776) (hb : (N b).length ≤ 1099511627776) : Ev (fun k => nat_Nat_Sub.f k (N a) (N b)) (if b ≤ a then (N (a - b), true) else ([], false)) := by
  unfold nat_Nat_Sub.f
  refine Ev.bind (E_cmp a b ha hb) ?_
  by_cases h : b ≤ a
  · rw [if_pos h]
    have hneg : ¬ ((if a < b then (-1 : Int) else if b < a then 1 else 0) < 0) := by
      rw [if_neg (by omega)]
      split <;> omega
    refine Ev.congr (fun k => if_neg hneg) ?_
    have hl := E_sub_l (N a) (N b) (DN_N a) (DN_N b) (N_len_le h) (by rw [VN_N, VN_N]; omega) ha _ 0 [] 0 rfl (by omega) rfl (Dg.nil _) (by omega) (by omega) (by simp [Vl])
    rw [VN_N, VN_N, show ((a : Int) - b).toNat = a - b by omega] at hl
    refine Ev.congr (fun k => ?_) hl
    rw [if_pos (by omega), if_pos (by omega), Int.toNat_natCast]
    simp
  · rw [if_neg h]
    have hneg : ((if a < b then (-1 : Int) else if b < a then 1 else 0) < 0) := by
      rw [if_pos (by omega)]
      omega
    exact Ev.congr (fun k => if_pos hneg) (Ev.now _)
theorem N_small_len (a : Nat) : (N a).length ≤ 2 ↔ a < 18446744073709551616 := by
  constructor
  · intro h
    have h1 := (Vl_bd (DN_N a)).2
    rw [show Vl 4294967296 (N a) = (a : Int) from VN_N a] at h1
    have h2 := Pw_mono _ _ h
    have h3 : PN 2 = 18446744073709551616 := rfl
    have h4 : (a : Int) < PN (N a).length := h1
    omega
  · intro h
    exact N_len (k := 2) (by have h3 : PN 2 = 18446744073709551616 := rfl
                             omega)
theorem or_join (x y : Int) (hx0 : 0 ≤ x) (hx : x ≤ 4294967295) (hy0 : 0 ≤ y) (hy : y ≤ 4294967295) : Go.bits .or .u64 (x * 4294967296) y = x * 4294967296 + y :=
  bits_join .u64 64 (by decide) (fun n h0 h1 => by show n % 18446744073709551616 = n; omega) 32 _ _ (by omega) (by omega) (by omega) hy0 (by omega) (by omega)
theorem E_small (a : Nat) (ha : (N a).length ≤ 1099511627776) : nat_Nat_Small.f (N a) = some (if a < 18446744073709551616 then ((a : Int), true) else (0, false)) := by
  unfold nat_Nat_Small.f
  by_cases h : a < 18446744073709551616
  · have hl := (N_small_len a).2 h
    rw [if_neg (by omega), if_pos h, show (1 : Int) = ((1 : Nat) : Int) from rfl, show (0 : Int) = ((0 : Nat) : Int) from rfl, getD_at, getD_at]
    simp only [obs]
    have h1 := DN_getD (DN_N a) 1; have h0 := DN_getD (DN_N a) 0
    have hv : (a : Int) = (N a)[0]?.getD 0 + 4294967296 * ((N a)[1]?.getD 0) := by
      have e := VN_N a
      have t : (N a).take 2 = N a := List.take_of_length_le hl
      rw [← t] at e
      have e1 := Vl_take_succ 4294967296 (N a) 1
      have e0 := Vl_take_succ 4294967296 (N a) 0
      have e2 : VN ((N a).take 2) = Vl 4294967296 ((N a).take (1 + 1)) := rfl
      rw [e2, e1, e0] at e
      simp only [List.take_zero, Vl, Pw] at e
      omega
    generalize (N a)[0]?.getD 0 = lo at *
    generalize (N a)[1]?.getD 0 = hi at *
    rw [show IntKind.u64.wrap hi = hi from u64 (by omega) (by omega), show IntKind.u64.wrap (hi * 4294967296) = hi * 4294967296 from u64 (by omega) (by omega), show IntKind.u64.wrap lo = lo from u64 (by omega) (by omega), or_join hi lo h1.1 h1.2 h0.1 h0.2, hv]
    congr 2
    omega
  · have hl := mt (N_small_len a).1 h
    rw [if_pos (by omega), if_neg h]
/-- the reference's comparison -/
theorem rcmp_digits {l m : List Int} (hl : DT l) (hm : DT m) (i : Nat) (hx : l[i]?.getD 0 < m[i]?.getD 0) (he : Vl 10 (l.drop (i + 1)) = Vl 10 (m.drop (i + 1))) : VT l < VT m := by
  have split : ∀ (q : List Int), VT q = Vl 10 (q.take (i + 1)) + Pw 10 (i + 1) * Vl 10 (q.drop (i + 1)) := by
    intro q
    by_cases h : i + 1 ≤ q.length
    · have := Vl_append 10 (q.take (i + 1)) (q.drop (i + 1))
      rw [List.take_append_drop] at this
      rw [show VT q = Vl 10 q from rfl, this]
      simp [Nat.min_eq_left h]
    · rw [List.take_of_length_le (by omega), List.drop_of_length_le (by omega)]
      simp [Vl]
  rw [split l, split m, he, Vl_take_succ, Vl_take_succ]
  have mono : ∀ x y : Nat, x ≤ y → Pw 10 x ≤ Pw 10 y := by
    intro x y h
    obtain ⟨z, rfl⟩ := Nat.exists_eq_add_of_le h
    have p := Pw_pos (b := 10) (by omega) z
    have q := Pw_pos (b := 10) (by omega) x
    rw [Pw_add]
    have : Pw 10 x * 1 ≤ Pw 10 x * Pw 10 z := Int.mul_le_mul_of_nonneg_left (by omega) (by omega)
    omega
  have bl : Vl 10 (l.take i) < Pw 10 i := by
    have h1 := (Vl_bd (hl.take i)).2
    have h2 := mono (l.take i).length i (by simp; omega)
    omega
  have bm := (Vl_bd (hm.take i)).1
  have pp := Pw_pos (b := 10) (by omega) i
  have : Pw 10 i * (l[i]?.getD 0 + 1) ≤ Pw 10 i * (m[i]?.getD 0) := Int.mul_le_mul_of_nonneg_left (by omega) (Int.le_of_lt pp)
  rw [Int.mul_add, Int.mul_one] at this
  omega
theorem E_rcmp (a b : Nat) (ha : (T a).length ≤ 1000000) (hb : (T b).length ≤ 1000000) : Ev (fun k => coxswainref03_Cmp.f k (T a) (T b)) (if a < b then -1 else if b < a then 1 else 0) := by
  have main : ∀ (i : Nat), i ≤ max (T a).length (T b).length → Vl 10 ((T a).drop i) = Vl 10 ((T b).drop i) → Ev (fun k => coxswainref03_Cmp.l0 k (T a) (T b) ((i : Int) - 1)) (if a < b then -1 else if b < a then 1 else 0) := by
    intro i
    induction i with
    | zero =>
      intro _ hv
      rw [List.drop_zero, List.drop_zero, show Vl 10 (T a) = (a : Int) from VT_T a, show Vl 10 (T b) = (b : Int) from VT_T b] at hv
      refine Ev.step (f := fun _ => some (if a < b then (-1 : Int) else if b < a then 1 else 0)) (fun k => ?_) (Ev.now _)
      simp only [coxswainref03_Cmp.l0]
      rw [if_neg (by omega), if_neg (by omega), if_neg (by omega)]
    | succ i ih =>
      intro hi hv
      rcases Int.lt_trichotomy ((T a)[i]?.getD 0) ((T b)[i]?.getD 0) with h | h | h
      · have := rcmp_digits (DT_T a) (DT_T b) i h hv
        rw [VT_T, VT_T] at this
        refine Ev.step (f := fun _ => some (if a < b then (-1 : Int) else if b < a then 1 else 0)) (fun k => ?_) (Ev.now _)
        simp only [coxswainref03_Cmp.l0]
        rw [show ((i + 1 : Nat) : Int) - 1 = (i : Int) by omega, if_pos (by omega), rat_at, rat_at]
        simp only [obs]
        rw [if_pos h, if_pos (by omega)]
      · refine Ev.step (f := fun k => coxswainref03_Cmp.l0 k (T a) (T b) ((i : Int) - 1)) (fun k => ?_) (ih (by omega) ?_)
        · conv => lhs; simp only [coxswainref03_Cmp.l0]
          rw [show ((i + 1 : Nat) : Int) - 1 = (i : Int) by omega, if_pos (by omega), rat_at, rat_at]
          simp only [obs]
          rw [if_neg (by omega), if_neg (by omega), w64 (by omega) (by omega)]
        · have dr : ∀ q : List Int, Vl 10 (q.drop i) = q[i]?.getD 0 + 10 * Vl 10 (q.drop (i + 1)) := by
            intro q
            by_cases h : i < q.length
            · rw [Vl_drop _ _ _ h]; simp [h]
            · rw [List.drop_of_length_le (by omega), List.drop_of_length_le (by omega)]; simp [h, Vl]
          rw [dr, dr, h, hv]
      · have := rcmp_digits (DT_T b) (DT_T a) i h hv.symm
        rw [VT_T, VT_T] at this
        refine Ev.step (f := fun _ => some (if a < b then (-1 : Int) else if b < a then 1 else 0)) (fun k => ?_) (Ev.now _)
        simp only [coxswainref03_Cmp.l0]
        rw [show ((i + 1 : Nat) : Int) - 1 = (i : Int) by omega, if_pos (by omega), rat_at, rat_at]
        simp only [obs]
        rw [if_neg (by omega), if_pos (by omega), if_neg (by omega), if_pos (by omega)]
  have h := main (max (T a).length (T b).length) (Nat.le_refl _) (by rw [List.drop_of_length_le (by omega), List.drop_of_length_le (by omega)])
  refine Ev.congr (fun k => ?_) h
  unfold coxswainref03_Cmp.f
  rw [mx_nat, w64 (by omega) (by omega)]
theorem T_len_le {a b : Nat} (h : a ≤ b) : (T a).length ≤ (T b).length := T_len (Nat.lt_of_le_of_lt h (T_bound b))
theorem rsub_ring1 (p u v c x y : Int) : u - v + p * c + p * (x - y - c + 10) = u + p * x - (v + p * y) + 10 * p * 1 := by grind
theorem rsub_ring2 (p u v c x y : Int) : u - v + p * c + p * (x - y - c) = u + p * x - (v + p * y) + 10 * p * 0 := by grind
theorem E_rsub_step (A B : List Int) (done : List Int) (c : Int) (i : Nat) (x y : Int) (hx : 0 ≤ x ∧ x < 10) (hy : 0 ≤ y ∧ y < 10)
    (hiA : i < A.length) (hA : A.length ≤ 1000000) (hl : done.length = i) (h0 : 0 ≤ c) (h1 : c ≤ 1) (hxv : rd A (i : Int) = x) (hyb : coxswainref03_at.f B (i : Int) = some y) (r : List Int)
    (h : Ev (fun k => coxswainref03_Sub.l0 k A B (done ++ [if x - y - c < 0 then x - y - c + 10 else x - y - c]) (if x - y - c < 0 then 1 else 0) ((i + 1 : Nat) : Int)) r) :
    Ev (fun k => coxswainref03_Sub.l0 k A B done c (i : Int)) r := by
  have hnext : wrap64 ((i : Int) + 1) = ((i + 1 : Nat) : Int) := by rw [w64 (by omega) (by omega)]; omega
  refine Ev.step (f := fun k => coxswainref03_Sub.l0 k A B (done ++ [if x - y - c < 0 then x - y - c + 10 else x - y - c]) (if x - y - c < 0 then 1 else 0) ((i + 1 : Nat) : Int)) (fun k => ?_) h
  conv => lhs; rw [coxswainref03_Sub.l0]
  rw [if_pos (by omega), if_pos (by omega)]
  refine bsome hyb ?_
  rw [hxv]
  have e1 : wrap64 (wrap64 (x - y) - c) = x - y - c := by rw [w64 (x := x - y) (by omega) (by omega)]; exact w64 (by omega) (by omega)
  rw [e1]
  by_cases hn : x - y - c < 0
  · rw [if_pos hn, if_pos (by omega), w64 (x := x - y - c + 10) (by omega) (by omega), hnext, if_pos hn, if_pos hn]
  · rw [if_neg hn, if_pos (by omega), hnext, if_neg hn, if_neg hn]
theorem E_rsub (a b : Nat) (hab : b ≤ a) (ha : (T a).length ≤ 1000000) : Ev (fun k => coxswainref03_Sub.f k (T a) (T b)) (T (a - b)) := by
  have hlen := T_len_le hab
  have main : ∀ (d i : Nat) (done : List Int) (c : Int), (T a).length - i = d → i ≤ (T a).length → done.length = i → DT done → 0 ≤ c → c ≤ 1 →
      VT done = VT ((T a).take i) - VT ((T b).take i) + Pw 10 i * c →
      Ev (fun k => coxswainref03_Sub.l0 k (T a) (T b) done c (i : Int)) (T (a - b)) := by
    intro d
    induction d with
    | zero =>
      intro i done c hd hi hl hdn h0 h1 hv
      have ta : (T a).take i = T a := List.take_of_length_le (by omega)
      have tb : (T b).take i = T b := List.take_of_length_le (by omega)
      rw [ta, tb, VT_T, VT_T] at hv
      have hD := Vl_bd hdn
      rw [hl] at hD
      have hp := Pw_pos (b := 10) (by omega) i
      have hc : c = 0 := by
        rcases (show c = 0 ∨ c = 1 by omega) with h | h
        · exact h
        · exfalso
          rw [h, Int.mul_one] at hv
          have hv2 : Vl 10 done = (a : Int) - b + Pw 10 i := hv
          omega
      subst hc
      rw [Int.mul_zero, Int.add_zero] at hv
      have h := E_rtrim done (by omega) hdn
      rw [hv, show ((a : Int) - b).toNat = a - b by omega] at h
      refine Ev.step (f := fun k => (coxswainref03_trim.f k done).bind fun t => some t) (fun k => by rw [coxswainref03_Sub.l0, if_neg (by omega)]) ?_
      exact Ev.bind h (Ev.now _)
    | succ d ih =>
      intro i done c hd hi hl hdn h0 h1 hv
      have hiA : i < (T a).length := by omega
      have hx := (DT_T a).get i hiA
      have hy := DT_getD (DT_T b) i
      have hxa : (T a)[i]?.getD 0 = (T a)[i] := by simp [hiA]
      have e1 := Vl_take_succ 10 (T a) i
      have e2 := Vl_take_succ 10 (T b) i
      rw [hxa] at e1
      have e4 : Pw 10 (i + 1) = 10 * Pw 10 i := rfl
      have hv' : Vl 10 done = Vl 10 ((T a).take i) - Vl 10 ((T b).take i) + Pw 10 i * c := hv
      refine E_rsub_step (T a) (T b) done c i (T a)[i] ((T b)[i]?.getD 0) hx ⟨hy.1, by omega⟩ hiA ha hl h0 h1 (rd_get _ i hiA) (rat_at _ _) _ ?_
      refine ih (i + 1) _ _ (by omega) (by omega) (by simp [hl]) (hdn.append (by intro z hz; simp only [List.mem_singleton] at hz; subst hz; split <;> omega)) (by split <;> omega) (by split <;> omega) ?_
      by_cases hneg : (T a)[i] - ((T b)[i]?.getD 0) - c < 0
      · rw [if_pos hneg, if_pos hneg]
        have e3 : Vl 10 [(T a)[i] - ((T b)[i]?.getD 0) - c + 10] = (T a)[i] - ((T b)[i]?.getD 0) - c + 10 := by rw [Vl, Vl]; omega
        show Vl 10 (done ++ _) = Vl 10 ((T a).take (i + 1)) - Vl 10 ((T b).take (i + 1)) + Pw 10 (i + 1) * 1
        rw [Vl_append, hl, e3, e1, e2, e4, hv']
        exact rsub_ring1 _ _ _ _ _ _
      · rw [if_neg hneg, if_neg hneg]
        have e3 : Vl 10 [(T a)[i] - ((T b)[i]?.getD 0) - c] = (T a)[i] - ((T b)[i]?.getD 0) - c := by rw [Vl, Vl]; omega
        show Vl 10 (done ++ _) = Vl 10 ((T a).take (i + 1)) - Vl 10 ((T b).take (i + 1)) + Pw 10 (i + 1) * 0
        rw [Vl_append, hl, e3, e1, e2, e4, hv']
        exact rsub_ring2 _ _ _ _ _ _
  exact main _ 0 [] 0 rfl (by omega) rfl (Dg.nil _) (by omega) (by omega) (by simp [Vl])
end Go.Proofs.Ytclmdidgioggdaa.Num
