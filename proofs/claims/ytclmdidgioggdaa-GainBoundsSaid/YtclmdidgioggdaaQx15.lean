-- Written by a program of this session (wip/print): no text of the kit's print.sh.
import Derived.Test.YtclmdidgioggdaaQx0
import Derived.Test.YtclmdidgioggdaaQx4
import Derived.Test.YtclmdidgioggdaaQx9
namespace Go.Proofs.Ytclmdidgioggdaa.Q
open Go.RowKit Go.Proofs.YtclmdidgioggdaaW.PrintWords Go.Proofs.YtclmdidgioggdaaW.PrintLast Go.Proofs.YtclmdidgioggdaaW.PrintMore
attribute [local go_sem] max2_int min2_int max_two min_two max_three min_three max_four min_four   -- for this text's walks alone
set_option linter.unusedVariables false
set_option linter.unusedSimpArgs false

/-! ### coxswainlaw04_GainBounds: function 4 -/
def coxswainlaw04_GainBounds.j0 : Nat → Int → Int → Int → Int → Bool → Option (Bool)
  | 0, _, _, _, _, _ => none
  | k + 1, x0, x1, x5, x6, x36 => if x36 = true then (some false) else (if 0 ≤ x1 then (if x0 > (shl .u64 1 x1) then (some (decide (x6 ≥ (mx x5 0)))) else (some (decide (x6 ≤ x5)))) else (none))
def coxswainlaw04_GainBounds.f (k : Nat) (a0 : Int) (a1 : Int) : Option (Bool) := (coxswainlaw04_awake.f k).bind fun t258 => (if t258 = true then ((gain_Log.f k (IntKind.u64.wrap (2 ^ (mx 0 (mn a1 62)).toNat))).bind fun t259 => ((gain_Log.f k a0).bind fun t260 => (if t259 = (256 * (mx 0 (mn a1 62))) then (if a0 < 9223372036854775808 then ((gain_Log.f k (IntKind.u64.wrap (2 * a0))).bind fun t261 => (if t261 = (wrap64 (t260 + 256)) then (coxswainlaw04_GainBounds.j0 k a0 (mx 0 (mn a1 62)) t259 t260 false) else (coxswainlaw04_GainBounds.j0 k a0 (mx 0 (mn a1 62)) t259 t260 (decide (a0 > 0))))) else (coxswainlaw04_GainBounds.j0 k a0 (mx 0 (mn a1 62)) t259 t260 false)) else (coxswainlaw04_GainBounds.j0 k a0 (mx 0 (mn a1 62)) t259 t260 true)))) else (some false))
theorem coxswainlaw04_GainBounds.mono_l : ∀ k, (∀ y0 y1 y2 y3 y4, LeO (coxswainlaw04_GainBounds.j0 k y0 y1 y2 y3 y4) (coxswainlaw04_GainBounds.j0 (k + 1) y0 y1 y2 y3 y4))
  | 0 => fun _ _ _ _ _ r h => by simp [coxswainlaw04_GainBounds.j0] at h
  | k + 1 => by
    have ih0 := coxswainlaw04_GainBounds.mono_l k
    · intro y0 y1 y2 y3 y4
      unfold coxswainlaw04_GainBounds.j0
      repeat' first
      | (with_reducible exact ih0 _ _ _ _ _)
      | (with_reducible exact coxswainlaw04_awake.mono _)
      | (with_reducible exact gain_Log.mono _ _)
      | (with_reducible exact LeO.refl _)
      | (with_reducible exact LeO.none _)
      | (with_reducible refine LeO.ite ?_ ?_)
      | (with_reducible refine LeO.bind ?_ (fun _ => ?_))
      | exact ih0 _ _ _ _ _
      | exact coxswainlaw04_awake.mono _
      | exact gain_Log.mono _ _
      | exact LeO.none _
      | refine LeO.ite ?_ ?_
      | refine LeO.bind ?_ (fun _ => ?_)
theorem coxswainlaw04_GainBounds.mono : ∀ a0 a1 k, LeO (coxswainlaw04_GainBounds.f k a0 a1) (coxswainlaw04_GainBounds.f (k + 1) a0 a1) := by
  intro a0 a1 k
  have ih0 := coxswainlaw04_GainBounds.mono_l k
  unfold coxswainlaw04_GainBounds.f
  repeat' first
      | (with_reducible exact ih0 _ _ _ _ _)
      | (with_reducible exact coxswainlaw04_awake.mono _)
      | (with_reducible exact gain_Log.mono _ _)
      | (with_reducible exact LeO.refl _)
      | (with_reducible exact LeO.none _)
      | (with_reducible refine LeO.ite ?_ ?_)
      | (with_reducible refine LeO.bind ?_ (fun _ => ?_))
      | exact ih0 _ _ _ _ _
      | exact coxswainlaw04_awake.mono _
      | exact gain_Log.mono _ _
      | exact LeO.none _
      | refine LeO.ite ?_ ?_
      | refine LeO.bind ?_ (fun _ => ?_)
set_option maxHeartbeats 8000000 in
set_option maxRecDepth 100000 in
theorem coxswainlaw04_GainBounds.calls (k : Nat) (a0 : Int) (a1 : Int) (r : Bool) (w : World) (h : coxswainlaw04_GainBounds.f k a0 a1 = some r) :
    Calls Try.prog 4 #[.int .u64 a0, .int .i64 a1] w fun e w' => e = .returned (.bool r) ∧ Below w.heap.size w w' := by
  have HB := Aside0.mk (Below.refl w.heap.size w)
  have H : ((coxswainlaw04_awake.f k).bind fun t258 => (if t258 = true then ((gain_Log.f k (IntKind.u64.wrap (2 ^ (mx 0 (mn a1 62)).toNat))).bind fun t259 => ((gain_Log.f k a0).bind fun t260 => (if t259 = (256 * (mx 0 (mn a1 62))) then (if a0 < 9223372036854775808 then ((gain_Log.f k (IntKind.u64.wrap (2 * a0))).bind fun t261 => (if t261 = (wrap64 (t260 + 256)) then (coxswainlaw04_GainBounds.j0 k a0 (mx 0 (mn a1 62)) t259 t260 false) else (coxswainlaw04_GainBounds.j0 k a0 (mx 0 (mn a1 62)) t259 t260 (decide (a0 > 0))))) else (coxswainlaw04_GainBounds.j0 k a0 (mx 0 (mn a1 62)) t259 t260 false)) else (coxswainlaw04_GainBounds.j0 k a0 (mx 0 (mn a1 62)) t259 t260 true)))) else (some false))) = some r := h
  clear h
  replace H := Option.bind_eq_some_iff.mp H
  obtain ⟨t258, A30, H⟩ := H
  replace H : (if t258 = true then ((gain_Log.f k (IntKind.u64.wrap (2 ^ (mx 0 (mn a1 62)).toNat))).bind fun t259 => ((gain_Log.f k a0).bind fun t260 => (if t259 = (256 * (mx 0 (mn a1 62))) then (if a0 < 9223372036854775808 then ((gain_Log.f k (IntKind.u64.wrap (2 * a0))).bind fun t261 => (if t261 = (wrap64 (t260 + 256)) then (coxswainlaw04_GainBounds.j0 k a0 (mx 0 (mn a1 62)) t259 t260 false) else (coxswainlaw04_GainBounds.j0 k a0 (mx 0 (mn a1 62)) t259 t260 (decide (a0 > 0))))) else (coxswainlaw04_GainBounds.j0 k a0 (mx 0 (mn a1 62)) t259 t260 false)) else (coxswainlaw04_GainBounds.j0 k a0 (mx 0 (mn a1 62)) t259 t260 true)))) else (some false)) = some r := H
  have A3 := Aside0.mk A30
  clear A30
  by_cases c4 : t258 = true
  · subst c4
    have H1 : ((gain_Log.f k (IntKind.u64.wrap (2 ^ (mx 0 (mn a1 62)).toNat))).bind fun t259 => ((gain_Log.f k a0).bind fun t260 => (if t259 = (256 * (mx 0 (mn a1 62))) then (if a0 < 9223372036854775808 then ((gain_Log.f k (IntKind.u64.wrap (2 * a0))).bind fun t261 => (if t261 = (wrap64 (t260 + 256)) then (coxswainlaw04_GainBounds.j0 k a0 (mx 0 (mn a1 62)) t259 t260 false) else (coxswainlaw04_GainBounds.j0 k a0 (mx 0 (mn a1 62)) t259 t260 (decide (a0 > 0))))) else (coxswainlaw04_GainBounds.j0 k a0 (mx 0 (mn a1 62)) t259 t260 false)) else (coxswainlaw04_GainBounds.j0 k a0 (mx 0 (mn a1 62)) t259 t260 true)))) = some r := by rw [if_pos rfl] at H; exact H
    clear H
    have H := H1
    clear H1
    obtain ⟨ji5, hji5⟩ : ∃ j_ : Int, (mn a1 62) = j_ := ⟨_, rfl⟩
    replace H : ((gain_Log.f k (IntKind.u64.wrap (2 ^ (mx 0 (ji5)).toNat))).bind fun t259 => ((gain_Log.f k a0).bind fun t260 => (if t259 = (256 * (mx 0 (ji5))) then (if a0 < 9223372036854775808 then ((gain_Log.f k (IntKind.u64.wrap (2 * a0))).bind fun t261 => (if t261 = (wrap64 (t260 + 256)) then (coxswainlaw04_GainBounds.j0 k a0 (mx 0 (ji5)) t259 t260 false) else (coxswainlaw04_GainBounds.j0 k a0 (mx 0 (ji5)) t259 t260 (decide (a0 > 0))))) else (coxswainlaw04_GainBounds.j0 k a0 (mx 0 (ji5)) t259 t260 false)) else (coxswainlaw04_GainBounds.j0 k a0 (mx 0 (ji5)) t259 t260 true)))) = some r := by first | (rw [hji5] at H; exact H) | (simp only [hji5] at H ⊢; exact H)
    (try rw [hji5] at A3)
    (try (have hji5h : ji5 ≤ 62 := by (rw [← hji5]; unfold mn; (repeat' split) <;> omega)))
    (try (have hji5g : ji5 ≤ 64 := by omega))
    (try (have hji5G : ji5 ≤ 64 := by (rw [← hji5]; unfold mn; (repeat' split) <;> omega)))
    (try (have hji5L : 0 ≤ ji5 := by (rw [← hji5]; unfold mn; (repeat' split) <;> omega)))
    have hji5_ : (if 62 < a1 then 62 else a1) = ji5 := hji5
    obtain ⟨ji6, hji6⟩ : ∃ j_ : Int, (mx 0 (ji5)) = j_ := ⟨_, rfl⟩
    replace H : ((gain_Log.f k (IntKind.u64.wrap (2 ^ (ji6).toNat))).bind fun t259 => ((gain_Log.f k a0).bind fun t260 => (if t259 = (256 * (ji6)) then (if a0 < 9223372036854775808 then ((gain_Log.f k (IntKind.u64.wrap (2 * a0))).bind fun t261 => (if t261 = (wrap64 (t260 + 256)) then (coxswainlaw04_GainBounds.j0 k a0 ji6 t259 t260 false) else (coxswainlaw04_GainBounds.j0 k a0 ji6 t259 t260 (decide (a0 > 0))))) else (coxswainlaw04_GainBounds.j0 k a0 ji6 t259 t260 false)) else (coxswainlaw04_GainBounds.j0 k a0 ji6 t259 t260 true)))) = some r := by first | (rw [hji6] at H; exact H) | (simp only [hji6] at H ⊢; exact H)
    (try rw [hji6] at A3)
    (try (have hji6G : ji6 ≤ 64 := by (rw [← hji6]; unfold mx; (repeat' split) <;> omega)))
    (try (have hji6L : 0 ≤ ji6 := by (rw [← hji6]; unfold mx; (repeat' split) <;> omega)))
    have hji6_ : (if 0 < (ji5) then (ji5) else 0) = ji6 := hji6
    replace H := Option.bind_eq_some_iff.mp H
    obtain ⟨t259, A70, H⟩ := H
    replace H : ((gain_Log.f k a0).bind fun t260 => (if t259 = (256 * (ji6)) then (if a0 < 9223372036854775808 then ((gain_Log.f k (IntKind.u64.wrap (2 * a0))).bind fun t261 => (if t261 = (wrap64 (t260 + 256)) then (coxswainlaw04_GainBounds.j0 k a0 ji6 t259 t260 false) else (coxswainlaw04_GainBounds.j0 k a0 ji6 t259 t260 (decide (a0 > 0))))) else (coxswainlaw04_GainBounds.j0 k a0 ji6 t259 t260 false)) else (coxswainlaw04_GainBounds.j0 k a0 ji6 t259 t260 true))) = some r := H
    have A7 := Aside0.mk A70
    clear A70
    replace H := Option.bind_eq_some_iff.mp H
    obtain ⟨t260, A80, H⟩ := H
    replace H : (if t259 = (256 * (ji6)) then (if a0 < 9223372036854775808 then ((gain_Log.f k (IntKind.u64.wrap (2 * a0))).bind fun t261 => (if t261 = (wrap64 (t260 + 256)) then (coxswainlaw04_GainBounds.j0 k a0 ji6 t259 t260 false) else (coxswainlaw04_GainBounds.j0 k a0 ji6 t259 t260 (decide (a0 > 0))))) else (coxswainlaw04_GainBounds.j0 k a0 ji6 t259 t260 false)) else (coxswainlaw04_GainBounds.j0 k a0 ji6 t259 t260 true)) = some r := H
    have A8 := Aside0.mk A80
    clear A80
    have HC9 := Aside0.mk H
    clear H
    go_enter Try.func4, Try.ntmps4
    go_upto_region 6 with (first | ((with_reducible refine gate_callee (f := 16) rfl ?_); refine goesL_ (some 7) rfl rfl Try.func16 (by kernel_rfl) rfl #[] rfl (by (try simp only [List.map_toArray, List.map_cons, List.map_nil]); first | done | rfl | (simp only [List.length_drop, List.length_take]; rfl)) ?_; (with_reducible refine (coxswainlaw04_awake.calls k  true _ A3.out).mono ?_); rintro e w10 ⟨rfl, hb⟩; refine ⟨_, rfl, ?_⟩; have n0_ := Aside0.mk (below_step (by repeat (first | (with_reducible first | exact HB.out | apply below_alloc | apply pw_below_drewN | apply below_drew1) | exact HB.out)) hb); clear HB; have HB := n0_; clear n0_; (try clear hb); (try clear hb2); (try clear hk); (try clear hi)) | ((with_reducible refine gate_callee (f := 17) rfl ?_); refine goesL_ (some 14) rfl rfl Try.func17 (by kernel_rfl) rfl #[.int .u64 (IntKind.u64.wrap (2 ^ (ji6).toNat))] rfl (by (try simp only [List.map_toArray, List.map_cons, List.map_nil]); first | done | (simp only [hji6]; rfl) | rfl | (simp only [List.length_drop, List.length_take]; rfl)) ?_; (with_reducible refine (gain_Log.calls k (IntKind.u64.wrap (2 ^ (ji6).toNat)) t259 _ A7.out).mono ?_); rintro e w11 ⟨rfl, hb⟩; refine ⟨_, rfl, ?_⟩; have n0_ := Aside0.mk (below_step (by repeat (first | (with_reducible first | exact HB.out | apply below_alloc | apply pw_below_drewN | apply below_drew1) | exact HB.out)) hb); clear HB; have HB := n0_; clear n0_; (try clear hb); (try clear hb2); (try clear hk); (try clear hi)) | ((with_reducible refine gate_callee (f := 17) rfl ?_); refine goesL_ (some 16) rfl rfl Try.func17 (by kernel_rfl) rfl #[.int .u64 a0] rfl (by (try simp only [List.map_toArray, List.map_cons, List.map_nil]); first | done | rfl | (simp only [List.length_drop, List.length_take]; rfl)) ?_; (with_reducible refine (gain_Log.calls k a0 t260 _ A8.out).mono ?_); rintro e w12 ⟨rfl, hb⟩; refine ⟨_, rfl, ?_⟩; have n0_ := Aside0.mk (below_step (by repeat (first | (with_reducible first | exact HB.out | apply below_alloc | apply pw_below_drewN | apply below_drew1) | exact HB.out)) hb); clear HB; have HB := n0_; clear n0_; (try clear hb); (try clear hb2); (try clear hk); (try clear hi)))
    (try simp only [Act.put, List.setIfInBounds_toArray, List.set_cons_zero, List.set_cons_succ])
    go_cut [36] (fun v36 wc => ∃ (kq : Nat) (x36_8 : Bool), v36 = .bool x36_8 ∧ Aside0 (coxswainlaw04_GainBounds.j0 kq a0 ji6 t259 t260 x36_8 = some r) ∧ Aside0 (kq ≤ k) ∧ Aside0 (Below w.heap.size w wc))
    case first =>
      have H := HC9.out
      clear HC9
      by_cases c13 : t259 = (256 * (ji6))
      · rw [if_pos c13] at H
        have c13b0 : (t259 == (256 * (ji6))) = true := beq_iff_eq.mpr c13
        have c13b1 : (t259 != (256 * (ji6))) = false := bne_eq_false_iff_eq.mpr c13
        clear c13
        (first | rw [c13b0] | (simp only [i64_w, i32_w]; rw [c13b0]) | skip)
        by_cases c14 : a0 < 9223372036854775808
        · rw [if_pos c14] at H
          have c14b0 : decide (a0 < 9223372036854775808) = true := decide_eq_true c14
          clear c14
          replace H := Option.bind_eq_some_iff.mp H
          obtain ⟨t261, A150, H⟩ := H
          replace H : (if t261 = (wrap64 (t260 + 256)) then (coxswainlaw04_GainBounds.j0 k a0 ji6 t259 t260 false) else (coxswainlaw04_GainBounds.j0 k a0 ji6 t259 t260 (decide (a0 > 0)))) = some r := H
          have A15 := Aside0.mk A150
          clear A150
          by_cases c16 : t261 = (wrap64 (t260 + 256))
          · rw [if_pos c16] at H
            have c16b0 : (t261 == (wrap64 (t260 + 256))) = true := beq_iff_eq.mpr c16
            have c16b1 : (t261 != (wrap64 (t260 + 256))) = false := bne_eq_false_iff_eq.mpr c16
            clear c16
            have H' := Aside0.mk H
            clear H
            go_wp2_with (first | (go_at_call 17; (with_reducible refine (gain_Log.calls k (IntKind.u64.wrap (2 * a0)) t261 _ A15.out).mono ?_); rintro e w17 ⟨rfl, hb⟩; have n0_ := Aside0.mk (below_step (by repeat (first | (with_reducible first | exact HB.out | apply below_alloc | apply pw_below_drewN | apply below_drew1) | exact HB.out)) hb); clear HB; have HB := n0_; clear n0_; (try clear hb); (try clear hb2); (try clear hk); (try clear hi)))
            go_meet
            case rel => exact ⟨_, (false), (by first | rfl | (simp; done) | (simp [*]; done)), H', ⟨by first | omega | exact Nat.le_refl _⟩, ⟨by repeat (first | (with_reducible first | exact HB.out | apply below_alloc | apply pw_below_drewN | apply below_drew1) | exact HB.out)⟩⟩
          · rw [if_neg c16] at H
            have c16b0 : (t261 == (wrap64 (t260 + 256))) = false := beq_eq_false_iff_ne.mpr c16
            have c16b1 : (t261 != (wrap64 (t260 + 256))) = true := bne_iff_ne.mpr c16
            have H' := Aside0.mk H
            clear H
            go_wp2_with (first | (go_at_call 17; (with_reducible refine (gain_Log.calls k (IntKind.u64.wrap (2 * a0)) t261 _ A15.out).mono ?_); rintro e w18 ⟨rfl, hb⟩; have n0_ := Aside0.mk (below_step (by repeat (first | (with_reducible first | exact HB.out | apply below_alloc | apply pw_below_drewN | apply below_drew1) | exact HB.out)) hb); clear HB; have HB := n0_; clear n0_; (try clear hb); (try clear hb2); (try clear hk); (try clear hi)))
            go_meet
            case rel => exact ⟨_, (decide (a0 > 0)), (by first | rfl | (simp; done) | (simp [*]; done)), H', ⟨by first | omega | exact Nat.le_refl _⟩, ⟨by repeat (first | (with_reducible first | exact HB.out | apply below_alloc | apply pw_below_drewN | apply below_drew1) | exact HB.out)⟩⟩
        · rw [if_neg c14] at H
          have c14b0 : decide (a0 < 9223372036854775808) = false := decide_eq_false c14
          clear c14
          have H' := Aside0.mk H
          clear H
          go_wp2
          go_meet
          case rel => exact ⟨_, (false), (by first | rfl | (simp; done) | (simp [*]; done)), H', ⟨by first | omega | exact Nat.le_refl _⟩, ⟨by repeat (first | (with_reducible first | exact HB.out | apply below_alloc | apply pw_below_drewN | apply below_drew1) | exact HB.out)⟩⟩
      · rw [if_neg c13] at H
        have c13b0 : (t259 == (256 * (ji6))) = false := beq_eq_false_iff_ne.mpr c13
        have c13b1 : (t259 != (256 * (ji6))) = true := bne_iff_ne.mpr c13
        (first | rw [c13b0] | (simp only [i64_w, i32_w]; rw [c13b0]) | skip)
        have H' := Aside0.mk H
        clear H
        go_wp2
        go_meet
        case rel => exact ⟨_, (true), (by first | rfl | (simp; done) | (simp [*]; done)), H', ⟨by first | omega | exact Nat.le_refl _⟩, ⟨by repeat (first | (with_reducible first | exact HB.out | apply below_alloc | apply pw_below_drewN | apply below_drew1) | exact HB.out)⟩⟩
    case rest =>
      clear HC9
      try clear c1
      try clear p2
      try clear c4
      try clear p6
      try clear c13
      try clear c13b0
      try clear c13b1
      try clear c14
      try clear c14b0
      try clear c16
      try clear c16b0
      try clear c16b1
      try clear c17
      obtain ⟨kq, x36_8, rfl, HA, HJ8, HB⟩ := hcut
      cases kq with
      | zero => exact absurd HA.out (by simp [coxswainlaw04_GainBounds.j0])
      | succ kj8 =>
        have H := HA.out
        clear HA
        simp only [coxswainlaw04_GainBounds.j0] at H
        by_cases c19 : x36_8 = true
        · subst c19
          have H1 : (some false) = some r := by rw [if_pos rfl] at H; exact H
          clear H
          have H := H1
          clear H1
          obtain rfl := Option.some.inj H
          go_wp2
          go_ret
          exact ⟨by first | rfl | (simp [errW_none, errW_some] <;> rfl) | (simp only [← hji5, ← hji6]; first | rfl | (simp [errW_none, errW_some] <;> rfl)) | (simp [*, errW_none, errW_some] <;> rfl), by repeat (first | (with_reducible first | exact HB.out | apply below_alloc | apply pw_below_drewN | apply below_drew1) | exact HB.out)⟩
        · replace c19 := Bool.eq_false_iff.mpr c19
          subst c19
          have H1 : (if 0 ≤ ji6 then (if a0 > (shl .u64 1 ji6) then (some (decide (t260 ≥ (mx t259 0)))) else (some (decide (t260 ≤ t259)))) else (none)) = some r := by rw [if_neg (show ¬ (false = true) by decide)] at H; exact H
          clear H
          have H := H1
          clear H1
          by_cases c20 : 0 ≤ ji6
          · rw [if_pos c20] at H
            have c20b0 := eq_true c20
            have c20b1 : decide (0 ≤ ji6) = true := decide_eq_true c20
            clear c20
            obtain ⟨ji21, hji21⟩ : ∃ j_ : Int, (shl .u64 1 ji6) = j_ := ⟨_, rfl⟩
            replace H : (if a0 > (ji21) then (some (decide (t260 ≥ (mx t259 0)))) else (some (decide (t260 ≤ t259)))) = some r := by first | (rw [hji21] at H; exact H) | (simp only [hji21] at H ⊢; exact H)
            have hji21_ : (IntKind.u64.wrap (1 * 2 ^ min ji6.toNat 64)) = ji21 := hji21
            have hji21z : ji6 ≤ 64 → (IntKind.u64.wrap (1 * 2 ^ ji6.toNat)) = ji21 := shl_small hji21
            have hji21u : (IntKind.u64.wrap (2 ^ min ji6.toNat 64)) = ji21 := by have h_ := hji21_; rw [Int.one_mul] at h_; exact h_
            have hji21v : ji6 ≤ 64 → (IntKind.u64.wrap (2 ^ ji6.toNat)) = ji21 := fun hle_ => by have h_ := hji21z hle_; rw [Int.one_mul] at h_; exact h_
            by_cases c22 : a0 > (ji21)
            · rw [if_pos c22] at H
              have c22b0 : decide ((ji21) < a0) = true := decide_eq_true c22
              clear c22
              obtain ⟨ji23, hji23⟩ : ∃ j_ : Int, (mx t259 0) = j_ := ⟨_, rfl⟩
              replace H : (some (decide (t260 ≥ (ji23)))) = some r := by first | (rw [hji23] at H; exact H) | (simp only [hji23] at H ⊢; exact H)
              (try (have hji23G : ji23 ≤ 64 := by (rw [← hji23]; unfold mx; (repeat' split) <;> omega)))
              (try (have hji23L : 0 ≤ ji23 := by (rw [← hji23]; unfold mx; (repeat' split) <;> omega)))
              have hji23_ : (if t259 < 0 then 0 else t259) = ji23 := hji23
              obtain rfl := Option.some.inj H
              go_wp2
              go_ret
              exact ⟨by first | rfl | (simp [errW_none, errW_some] <;> rfl) | (simp only [← hji5, ← hji6, ← hji21, ← hji23]; first | rfl | (simp [errW_none, errW_some] <;> rfl)) | (simp [*, errW_none, errW_some] <;> rfl), by repeat (first | (with_reducible first | exact HB.out | apply below_alloc | apply pw_below_drewN | apply below_drew1) | exact HB.out)⟩
            · rw [if_neg c22] at H
              have c22b0 : decide ((ji21) < a0) = false := decide_eq_false c22
              clear c22
              obtain rfl := Option.some.inj H
              go_wp2
              go_ret
              exact ⟨by first | rfl | (simp [errW_none, errW_some] <;> rfl) | (simp only [← hji5, ← hji6, ← hji21]; first | rfl | (simp [errW_none, errW_some] <;> rfl)) | (simp [*, errW_none, errW_some] <;> rfl), by repeat (first | (with_reducible first | exact HB.out | apply below_alloc | apply pw_below_drewN | apply below_drew1) | exact HB.out)⟩
          · rw [if_neg c20] at H
            exact absurd H (by simp)
  · replace c4 := Bool.eq_false_iff.mpr c4
    subst c4
    have H1 : (some false) = some r := by rw [if_neg (show ¬ (false = true) by decide)] at H; exact H
    clear H
    have H := H1
    clear H1
    obtain rfl := Option.some.inj H
    go_enter Try.func4, Try.ntmps4
    go_wp2_with (first | ((with_reducible refine gate_callee (f := 16) rfl ?_); refine goesL_ (some 7) rfl rfl Try.func16 (by kernel_rfl) rfl #[] rfl (by (try simp only [List.map_toArray, List.map_cons, List.map_nil]); first | done | rfl | (simp only [List.length_drop, List.length_take]; rfl)) ?_; (with_reducible refine (coxswainlaw04_awake.calls k  false _ A3.out).mono ?_); rintro e w24 ⟨rfl, hb⟩; refine ⟨_, rfl, ?_⟩; have n0_ := Aside0.mk (below_step (by repeat (first | (with_reducible first | exact HB.out | apply below_alloc | apply pw_below_drewN | apply below_drew1) | exact HB.out)) hb); clear HB; have HB := n0_; clear n0_; (try clear hb); (try clear hb2); (try clear hk); (try clear hi)))
    go_ret
    exact ⟨by first | rfl | (simp [errW_none, errW_some] <;> rfl) | (simp [*, errW_none, errW_some] <;> rfl), by repeat (first | (with_reducible first | exact HB.out | apply below_alloc | apply pw_below_drewN | apply below_drew1) | exact HB.out)⟩

/-- THE ONE PURE STATEMENT of coxswainlaw04_GainBounds: yours. -/
def coxswainlaw04_GainBounds.Pure : Prop := ∀ (a0 : Int) (a1 : Int), (Lit.int .u64 a0).wf = true → (Lit.int .i64 a1).wf = true → ∃ k, coxswainlaw04_GainBounds.f k a0 a1 = some true
theorem coxswainlaw04_GainBounds.walk (P : coxswainlaw04_GainBounds.Pure) (a0 : Int) (a1 : Int) (w : World) (w0 : (Lit.int .u64 a0).wf = true) (w1 : (Lit.int .i64 a1).wf = true) :
    Calls Try.prog 4 #[.int .u64 a0, .int .i64 a1] w fun e w' => e = .returned (.bool true) ∧ Below w.heap.size w w' := by
  obtain ⟨k, h⟩ := P a0 a1 w0 w1
  refine (coxswainlaw04_GainBounds.calls k a0 a1 true w h).mono ?_
  rintro e w' ⟨rfl, hd⟩
  exact ⟨rfl, hd⟩

end Go.Proofs.Ytclmdidgioggdaa.Q
