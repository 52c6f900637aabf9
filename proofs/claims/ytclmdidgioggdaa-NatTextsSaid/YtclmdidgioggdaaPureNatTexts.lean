/- NatTexts: a text or bytes that are read go back to themselves; which of them are read is the reference's answer. No condition. -/
import Derived.Test.YtclmdidgioggdaaNatE
import Derived.Test.YtclmdidgioggdaaQx33
import Derived.Test.YtclmdidgioggdaaQx36
namespace Go.Proofs.Ytclmdidgioggdaa.Pure
open Go.RowKit Go.Proofs.YtclmdidgioggdaaW.PrintWords Go.Proofs.Ytclmdidgioggdaa.Q Go.Proofs.Ytclmdidgioggdaa.Num
theorem E_cut (s : ByteArray) (n : Nat) : ∃ t : ByteArray, t.size ≤ n ∧ coxswainlaw01_Cut.f s (n : Int) = some t := by
  unfold coxswainlaw01_Cut.f
  by_cases h : (s.size : Int) > n
  · refine ⟨s.extract 0 n, ?_, ?_⟩
    · simp; omega
    · rw [if_pos h, if_pos (by omega), if_pos (by omega)]
      rfl
  · exact ⟨s, by omega, if_neg h⟩
theorem empty_zero : nat_Nat_Zero.f [] = some true := by
  have := E_zero 0
  rw [show N 0 = [] from Ds_zero _] at this
  exact this
theorem NatTexts_j1g (a : Nat) (s : ByteArray) (na : (N a).length ≤ 1000000) (hs : byt a = s) : Ev (fun k => coxswainlaw03_NatTexts.j1 k s true false (N a)) true := by
  refine Ev.step (f := fun k => (nat_Nat_Bytes.f k (N a)).bind fun t536 => (if t536.toList = s.toList then (some true) else (some false))) (fun k => ?_) ?_
  · rw [coxswainlaw03_NatTexts.j1, if_neg Bool.false_ne_true, if_pos rfl]
  · refine Ev.bind (E_bytes a na) ?_
    exact Ev.congr (fun k => if_pos (by rw [hs])) (Ev.now _)
theorem NatTexts_j1b (s : ByteArray) : Ev (fun k => coxswainlaw03_NatTexts.j1 k s false false []) true := by
  refine Ev.step (f := fun k => some true) (fun k => ?_) (Ev.now _)
  rw [coxswainlaw03_NatTexts.j1, if_neg Bool.false_ne_true, if_neg Bool.false_ne_true]
  exact bsome empty_zero rfl
theorem Pw_mono_256 (x y : Nat) (h : x ≤ y) : Pw 256 x ≤ Pw 256 y := by
  have e : ∀ n, Pw 256 n = ((256 ^ n : Nat) : Int) := Pw_nat 256
  rw [e, e]
  exact Int.ofNat_le.2 (Nat.pow_le_pow_right (by omega) h)
theorem NatTexts_j0 (s : ByteArray) : Ev (fun k => coxswainlaw03_NatTexts.j0 k s false) true := by
  obtain ⟨t, ht, ec⟩ := E_cut s 162
  refine Ev.step (f := fun k => (nat_From.f k t).bind fun bt531 => (if (t.size : Int) ≤ 160 then (if t.toList = ([] : List UInt8) then (coxswainlaw03_NatTexts.j1 k t bt531.2 (bt531.2 != true) bt531.1) else (if 0 < (t.size : Int) then (coxswainlaw03_NatTexts.j1 k t bt531.2 (bt531.2 != ((bt t 0) != 0)) bt531.1) else (none))) else (coxswainlaw03_NatTexts.j1 k t bt531.2 (bt531.2 != false) bt531.1))) (fun k => ?_) ?_
  · rw [coxswainlaw03_NatTexts.j0, if_neg Bool.false_ne_true]
    exact bsome ec rfl
  · by_cases h : 160 < t.size
    · refine Ev.bind (E_from_bad t (.inl h)) ?_
      refine Ev.congr (fun k => if_neg (by omega)) ?_
      exact NatTexts_j1b t
    · have len : (N (bval t)).length ≤ 1000000 := by
        have hv := Vl_bd (Dg_rev (Dg_bys t))
        have hp := Pw_mono_256 t.size 160 (by omega)
        rw [List.length_reverse, bys_len] at hv
        have e : Pw 256 160 = PN 40 := by kernel_rfl
        exact Nat.le_trans (N_len (k := 40) (by unfold bval; rw [← e, Int.toNat_of_nonneg hv.1]; omega)) (by omega)
      by_cases h0 : t.size = 0
      · refine Ev.bind (E_from_good t (by omega) (fun q => absurd h0 q)) ?_
        refine Ev.congr (fun k => if_pos (by omega)) ?_
        have hz : t.toList = ([] : List UInt8) := List.eq_nil_of_length_eq_zero (by rw [toList_len]; exact h0)
        refine Ev.congr (fun k => if_pos hz) ?_
        exact NatTexts_j1g _ _ len (byt_bval t (fun q => absurd h0 q))
      · have hz : t.toList ≠ ([] : List UInt8) := by
          intro e
          have : t.toList.length = t.size := toList_len t
          rw [e] at this
          exact h0 this.symm
        by_cases hb : bt t 0 = 0
        · refine Ev.bind (E_from_bad t (.inr ⟨h0, hb⟩)) ?_
          refine Ev.congr (fun k => if_pos (by omega)) ?_
          refine Ev.congr (fun k => if_neg hz) ?_
          refine Ev.congr (fun k => if_pos (by omega)) ?_
          have e : (false != (bt t 0 != 0)) = false := by rw [hb]; rfl
          rw [e]
          exact NatTexts_j1b t
        · refine Ev.bind (E_from_good t (by omega) (fun _ => hb)) ?_
          refine Ev.congr (fun k => if_pos (by omega)) ?_
          refine Ev.congr (fun k => if_neg hz) ?_
          refine Ev.congr (fun k => if_pos (by omega)) ?_
          have e : (true != (bt t 0 != 0)) = false := by rw [(bne_iff_ne (a := bt t 0) (b := 0)).2 hb]; rfl
          rw [e]
          exact NatTexts_j1g _ _ len (byt_bval t (fun _ => hb))
theorem NatTexts : coxswainlaw03_NatTexts.Pure := by
  intro a0 a1 h0 h1
  obtain ⟨t, ht, ec⟩ := E_cut a0 402
  refine Ev.rounds ?_
  unfold coxswainlaw03_NatTexts.f
  refine Ev.bind E_awake3 ?_
  refine Ev.congr (fun k => if_pos rfl) ?_
  refine Ev.bind (Ev.congr (fun k => ec) (Ev.now _)) ?_
  have last := NatTexts_j0 a1
  by_cases hg : good t
  · have hlt : dval 0 t.data.toList < 10 ^ (0 + t.data.toList.length) := dval_lt _ 0 0 hg.2.2.2 (by omega)
    have hl : t.data.toList.length = t.size := by simp
    have tn := T_len_N hlt
    refine Ev.bind (E_parse_good t hg) (Ev.bind (E_rparse_good t hg) ?_)
    refine Ev.congr (fun k => if_neg Bool.false_ne_true) ?_
    refine Ev.congr (fun k => if_pos rfl) ?_
    refine Ev.bind (E_text _ (by omega) (by omega)) ?_
    refine Ev.congr (fun k => if_pos (by rw [dec_dval t hg])) ?_
    refine Ev.bind (E_rtext _ (by omega)) (Ev.bind (E_text _ (by omega) (by omega)) ?_)
    rw [bne_self_eq_false]
    exact last
  · have e0 : N 0 = [] := Ds_zero _
    have e1 : T 0 = [] := Ds_zero _
    refine Ev.bind (E_parse_bad t hg) (Ev.bind (E_rparse_bad t hg) ?_)
    refine Ev.congr (fun k => if_neg Bool.false_ne_true) ?_
    refine Ev.congr (fun k => if_neg Bool.false_ne_true) ?_
    rw [empty_zero]
    refine Ev.bind (Ev.now _) ?_
    refine Ev.congr (fun k => if_pos rfl) ?_
    have et := E_text 0 (by rw [e0]; simp) (by rw [e1]; simp)
    have ert := E_rtext 0 (by rw [e1]; simp)
    rw [e0] at et
    rw [e1] at ert
    refine Ev.bind ert (Ev.bind et ?_)
    rw [bne_self_eq_false]
    exact last
end Go.Proofs.Ytclmdidgioggdaa.Pure
