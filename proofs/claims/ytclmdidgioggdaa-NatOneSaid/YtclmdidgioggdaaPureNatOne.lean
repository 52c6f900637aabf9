/- NatOne: bits, bytes, text, quotient and rest of a number are the reference's; Small and Of agree. No condition. -/
import Derived.Test.YtclmdidgioggdaaNatD
import Derived.OpenShut
import Derived.Test.YtclmdidgioggdaaQx40
namespace Go.Proofs.Ytclmdidgioggdaa.Pure
open Go.RowKit Go.Proofs.YtclmdidgioggdaaW.PrintWords Go.Proofs.Ytclmdidgioggdaa.Q Go.Proofs.Ytclmdidgioggdaa.Num
theorem N_nil_iff (l : List Int) (h : l = []) : nat_Nat_Zero.f l = some true := by
  subst h
  have := E_zero 0
  rw [show N 0 = [] from Ds_zero _] at this
  exact this
theorem NatOne_j1 (q : Nat) (hq : (N q).length ≤ 1000000) : Ev (fun k => coxswainlaw03_NatOne.j1 k (N q)) true := by
  have hb : bl q ≤ 64 ↔ q < 18446744073709551616 := by
    constructor
    · intro h
      by_cases h0 : q = 0
      · omega
      · have h1 := (bl_spec h0).2.1
        have h2 : 2 ^ bl q ≤ 2 ^ 64 := Nat.pow_le_pow_right (by omega) h
        omega
    · intro h
      exact bl_le (k := 64) (by omega)
  by_cases h : q < 18446744073709551616
  · refine Ev.step (f := fun k => (nat_Of.f k (q : Int)).bind fun t606 => ((nat_Nat_Cmp.f k t606 (N q)).bind fun t609 => (if t609 = 0 then (some true) else (some false)))) (fun k => ?_) ?_
    · rw [coxswainlaw03_NatOne.j1]
      refine bsome (E_small q (by omega)) (bsome (E_bits q (by omega)) ?_)
      rw [if_pos h]
      have e : decide ((bl q : Int) ≤ 64) = true := decide_eq_true (by have := hb.2 h; omega)
      rw [e]
      rfl
    · refine Ev.bind (E_of q h) (Ev.bind (E_cmp q q (by omega) (by omega)) ?_)
      refine Ev.congr (fun k => if_pos (by rw [if_neg (by omega), if_neg (by omega)])) ?_
      exact Ev.now _
  · refine Ev.step (f := fun k => some true) (fun k => ?_) (Ev.now _)
    rw [coxswainlaw03_NatOne.j1]
    refine bsome (E_small q (by omega)) (bsome (E_bits q (by omega)) ?_)
    rw [if_neg h]
    have e : decide ((bl q : Int) ≤ 64) = false := decide_eq_false (by have := mt hb.1 h; omega)
    rw [e]
    rfl
theorem NatOne_j0 (a d : Nat) (hd0 : 0 < d) (hd : d < 4294967296) (ta : (T a).length ≤ 100000) (na : (N a).length ≤ 100000) :
    Ev (fun k => coxswainlaw03_NatOne.j0 k (d : Int) (T a) ((a % d : Nat) : Int) true false (N a) (N (a / d))) true := by
  have hle : a / d ≤ a := Nat.div_le_self _ _
  have l1 := T_len_le hle
  have l2 := N_len_le hle
  have hm : a % d < d := Nat.mod_lt _ hd0
  refine Ev.step (f := fun k => (coxswainref03_Div.f k (T a) (d : Int)).bind fun bt597 => ((nat_Nat_Text.f k (N (a / d))).bind fun t601 => ((coxswainref03_Text.f k bt597.1).bind fun t602 => (if t601.toList = t602.toList then (if ((a % d : Nat) : Int) = bt597.2 then (coxswainlaw03_NatOne.j1 k (N a)) else (some false)) else (some false))))) (fun k => ?_) ?_
  · rw [coxswainlaw03_NatOne.j0, if_neg Bool.false_ne_true, if_pos rfl, w64 (x := (d : Int)) (by omega) (by omega), w64 (x := ((a % d : Nat) : Int)) (by omega) (by omega)]
  · refine Ev.bind (E_rdiv a d hd0 (by omega) (by omega)) ?_
    refine Ev.bind (E_text _ (by omega) (by omega)) ?_
    refine Ev.bind (E_rtext _ (by omega)) ?_
    refine Ev.congr (fun k => if_pos rfl) ?_
    refine Ev.congr (fun k => if_pos rfl) ?_
    exact NatOne_j1 a (by omega)
theorem NatOne_jz (a : Nat) (d x : Int) (q : List Int) (na : (N a).length ≤ 100000) :
    Ev (fun k => coxswainlaw03_NatOne.j0 k d (T a) x false false (N a) q) true := by
  refine Ev.step (f := fun k => coxswainlaw03_NatOne.j1 k (N a)) (fun k => ?_) (NatOne_j1 a (by omega))
  rw [coxswainlaw03_NatOne.j0, if_neg Bool.false_ne_true, if_neg Bool.false_ne_true]
theorem E_div0 (l : List Int) : Ev (fun k => nat_Nat_Div.f k l 0) ([], 0, false) := by
  unfold nat_Nat_Div.f
  exact Ev.congr (fun k => if_pos rfl) (Ev.now _)
theorem NatOne : coxswainlaw03_NatOne.Pure := by
  intro a0 a1 h0 h1
  have b1 : 0 ≤ a1 ∧ a1 ≤ 4294967295 := Go.bounds_u32 h1
  obtain ⟨d, rfl⟩ := Int.eq_ofNat_of_zero_le b1.1
  obtain ⟨n, hn⟩ : ∃ n, n = 80 := ⟨80, rfl⟩
  have hn80 : ((80 : Nat) : Int) = (n : Int) := by rw [hn]
  obtain ⟨a, ha, e1⟩ := E_lawof a0 (by omega) n (by omega)
  rw [← hn80] at e1
  have na := T_len_N ha
  clear ha
  have cb := bl_len a
  have eb := E_bits a (by omega)
  have erb := E_rbits a (by omega) (by omega)
  have ez : ((decide (a = 0)) != (((T a).length : Int) == 0)) = false := by
    have := T_zero_iff a
    by_cases h : a = 0
    · rw [decide_eq_true h, this.2 h]; rfl
    · rw [decide_eq_false h]
      have h2 : ((((T a).length : Int) == 0)) = false := by
        rw [beq_eq_false_iff_ne]
        intro e
        exact h (this.1 (by omega))
      rw [h2]; rfl
  have eby := E_bytes a (by omega)
  have erby := E_rbytes a (by omega) (by omega)
  have et := E_text a (by omega) (by omega)
  have ert := E_rtext a (by omega)
  refine Ev.rounds ?_
  unfold coxswainlaw03_NatOne.f
  refine Ev.bind E_awake3 ?_
  refine Ev.congr (fun k => if_pos rfl) ?_
  refine Ev.bind e1 ?_
  by_cases hd : d = 0
  · subst hd
    refine Ev.bind (E_div0 _) ?_
    refine Ev.congr (fun k => if_neg Bool.false_ne_true) ?_
    refine Ev.congr (fun k => if_neg Bool.false_ne_true) ?_
    rw [N_nil_iff _ rfl]
    refine Ev.bind (Ev.now _) ?_
    refine Ev.congr (fun k => if_pos rfl) ?_
    refine Ev.congr (fun k => if_pos rfl) ?_
    rw [eb]
    refine Ev.bind (Ev.now _) ?_
    refine Ev.bind erb ?_
    refine Ev.congr (fun k => if_pos rfl) ?_
    rw [E_zero]
    refine Ev.bind (Ev.now _) ?_
    refine Ev.congr (fun k => if_neg (by rw [ez]; exact Bool.false_ne_true)) ?_
    refine Ev.bind eby (Ev.bind erby ?_)
    refine Ev.congr (fun k => if_pos rfl) ?_
    refine Ev.bind et (Ev.bind ert ?_)
    rw [bne_self_eq_false]
    exact NatOne_jz a _ _ _ (by omega)
  · refine Ev.bind (E_div a d (by omega) (by omega) (by omega)) ?_
    have e0 : (true != decide ((d : Int) > 0)) = false := by
      rw [decide_eq_true (by omega)]; rfl
    refine Ev.congr (fun k => if_neg (by rw [e0]; exact Bool.false_ne_true)) ?_
    refine Ev.congr (fun k => if_pos rfl) ?_
    rw [eb]
    refine Ev.bind (Ev.now _) ?_
    refine Ev.bind erb ?_
    refine Ev.congr (fun k => if_pos rfl) ?_
    rw [E_zero]
    refine Ev.bind (Ev.now _) ?_
    refine Ev.congr (fun k => if_neg (by rw [ez]; exact Bool.false_ne_true)) ?_
    refine Ev.bind eby (Ev.bind erby ?_)
    refine Ev.congr (fun k => if_pos rfl) ?_
    refine Ev.bind et (Ev.bind ert ?_)
    rw [bne_self_eq_false]
    exact NatOne_j0 a d (by omega) (by omega) (by omega) (by omega)
end Go.Proofs.Ytclmdidgioggdaa.Pure
