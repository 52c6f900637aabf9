/- NatSmall: a uint64 goes through texts, bytes and comparisons unchanged. No condition. -/
import Derived.Test.YtclmdidgioggdaaNatE
import Derived.OpenShut
import Derived.Test.YtclmdidgioggdaaQx22
import Derived.Test.YtclmdidgioggdaaQx45
namespace Go.Proofs.Ytclmdidgioggdaa.Pure
open Go.RowKit Go.Proofs.YtclmdidgioggdaaW.PrintWords Go.Proofs.Ytclmdidgioggdaa.Q Go.Proofs.Ytclmdidgioggdaa.Num
theorem NatSmall_j1 (a b : Nat) (ha : a < 18446744073709551616) (hb : b < 18446744073709551616) :
    Ev (fun k => coxswainlaw03_NatSmall.j1 k (a : Int) (a : Int) true true true (if a < b then -1 else if b < a then 1 else 0) (N a) (N b) (N a) (N a)) true := by
  have la := (N_small_len a).2 ha
  have lb := (N_small_len b).2 hb
  have ta : (T a).length ≤ 20 := T_len (k := 20) (by omega)
  refine Ev.step (f := fun k => (nat_Nat_Cmp.f k (N a) (N a)).bind fun t718 => (if t718 = 0 then (if true = true then ((nat_Nat_Cmp.f k (N a) (N a)).bind fun t719 => (if t719 = 0 then ((nat_Nat_Cmp.f k (N a) (N b)).bind fun t720 => (if t720 = (if a < b then -1 else if b < a then 1 else 0) then ((nat_Nat_Text.f k (N a)).bind fun t721 => ((coxswainref03_Of.f k (a : Int)).bind fun t722 => ((coxswainref03_Text.f k t722).bind fun t725 => (some (t721.toList == t725.toList))))) else (some false))) else (some false))) else (some false)) else (some false))) (fun k => ?_) ?_
  · rw [coxswainlaw03_NatSmall.j1, if_pos rfl, if_pos rfl, if_pos rfl]
  · have same : (if a < a then (-1 : Int) else if a < a then 1 else 0) = 0 := by rw [if_neg (by omega), if_neg (by omega)]
    have c := E_cmp a a (by omega) (by omega)
    rw [same] at c
    refine Ev.bind c ?_
    refine Ev.congr (fun k => if_pos rfl) ?_
    refine Ev.congr (fun k => if_pos rfl) ?_
    refine Ev.bind c ?_
    refine Ev.congr (fun k => if_pos rfl) ?_
    refine Ev.bind (E_cmp a b (by omega) (by omega)) ?_
    refine Ev.congr (fun k => if_pos rfl) ?_
    refine Ev.bind (E_text a (by omega) (by omega)) ?_
    refine Ev.bind (E_rof a ha) ?_
    refine Ev.bind (E_rtext a (by omega)) ?_
    rw [beq_self_eq_true]
    exact Ev.now _
theorem NatSmall_j0 (a b : Nat) (ha : a < 18446744073709551616) (hb : b < 18446744073709551616) (c : Int) (hc : c = if a < b then -1 else 0) :
    Ev (fun k => coxswainlaw03_NatSmall.j0 k (a : Int) (b : Int) (a : Int) true true true c (N a) (N b) (N a) (N a)) true := by
  have h := NatSmall_j1 a b ha hb
  by_cases h1 : (a : Int) > (b : Int)
  · rw [if_neg (by omega), if_pos (by omega)] at h
    refine Ev.step (fun k => ?_) h
    rw [coxswainlaw03_NatSmall.j0, if_pos h1]
  · rw [show (if b < a then (1 : Int) else 0) = 0 from if_neg (by omega), ← hc] at h
    refine Ev.step (fun k => ?_) h
    rw [coxswainlaw03_NatSmall.j0, if_neg h1]
theorem NatSmall : coxswainlaw03_NatSmall.Pure := by
  intro a0 a1 h0 h1
  have b0 : 0 ≤ a0 ∧ a0 ≤ 18446744073709551615 := Go.bounds_u64 h0
  have b1 : 0 ≤ a1 ∧ a1 ≤ 18446744073709551615 := Go.bounds_u64 h1
  obtain ⟨a, rfl⟩ := Int.eq_ofNat_of_zero_le b0.1
  obtain ⟨b, rfl⟩ := Int.eq_ofNat_of_zero_le b1.1
  have ha : a < 18446744073709551616 := by omega
  have hb : b < 18446744073709551616 := by omega
  have la := (N_small_len a).2 ha
  have ta : (T a).length ≤ 20 := T_len (k := 20) (by omega)
  have da := digs_len a
  have cb := bl_len a
  have bb := byte_len a
  have gd := good_dec a (by omega)
  have ep := E_parse_good (dec a) gd
  rw [dval_dec] at ep
  refine Ev.rounds ?_
  unfold coxswainlaw03_NatSmall.f
  refine Ev.bind E_awake3 ?_
  refine Ev.congr (fun k => if_pos rfl) ?_
  refine Ev.bind (E_of a ha) (Ev.bind (E_of b hb) ?_)
  rw [E_small a (by omega), if_pos ha]
  refine Ev.bind (Ev.now _) ?_
  refine Ev.bind (E_text a (by omega) (by omega)) ?_
  refine Ev.bind ep ?_
  refine Ev.bind (E_bytes a (by omega)) ?_
  refine Ev.bind (E_from_byt a (by omega)) ?_
  by_cases h : (a : Int) < (b : Int)
  · exact Ev.congr (fun k => if_pos h) (NatSmall_j0 a b ha hb _ (by rw [if_pos (by omega)]))
  · exact Ev.congr (fun k => if_neg h) (NatSmall_j0 a b ha hb _ (by rw [if_neg (by omega)]))
end Go.Proofs.Ytclmdidgioggdaa.Pure
