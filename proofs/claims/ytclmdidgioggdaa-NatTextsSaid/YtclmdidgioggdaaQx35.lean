-- Written by a program of this session (wip/print): no text of the kit's print.sh.
import Derived.Test.YtclmdidgioggdaaQx0
import Derived.Test.YtclmdidgioggdaaQx3
import Derived.Test.YtclmdidgioggdaaQx4
namespace Go.Proofs.Ytclmdidgioggdaa.Q
open Go.RowKit Go.Proofs.YtclmdidgioggdaaW.PrintWords Go.Proofs.YtclmdidgioggdaaW.PrintLast Go.Proofs.YtclmdidgioggdaaW.PrintMore
attribute [local go_sem] max2_int min2_int max_two min_two max_three min_three max_four min_four   -- for this text's walks alone
set_option linter.unusedVariables false
set_option linter.unusedSimpArgs false

/-! ### nat_Nat_Bytes: function 41 -/
def nat_Nat_Bytes.l0 : Nat → Int → List Int → Int → Int → List Int → Option (ByteArray)
  | 0, _, _, _, _, _ => none
  | k + 1, x3, x4, x14, x15, x507000 => if x15 < x14 then ((nat_Nat_at.f x507000 (wrap64 (Int.tdiv (wrap64 ((wrap64 (x3 - 1)) - x15)) 4))).bind fun t511 => (if 0 ≤ (wrap64 (8 * (Int.tmod (wrap64 ((wrap64 (x3 - 1)) - x15)) 4))) then (if 0 ≤ x15 then (if x15 < (x4.length : Int) then (nat_Nat_Bytes.l0 k x3 (x4.set (x15 : Int).toNat ((shr .u32 t511 (wrap64 (8 * (Int.tmod (wrap64 ((wrap64 (x3 - 1)) - x15)) 4)))) % 256)) x14 (wrap64 (x15 + 1)) x507000) else (none)) else (none)) else (none))) else (some (strOfNums x4))
def nat_Nat_Bytes.f (k : Nat) (l0_0 : List Int) : Option (ByteArray) := (nat_Nat_Bits.f l0_0).bind fun t507 => (if 0 ≤ (wrap64 (Int.tdiv (wrap64 (t507 + 7)) 8)) then (if (wrap64 (Int.tdiv (wrap64 (t507 + 7)) 8) : Int).toNat ≤ 281474976710656 then ((some (List.replicate (wrap64 (Int.tdiv (wrap64 (t507 + 7)) 8) : Int).toNat 0 : List Int)).bind fun y508 => (nat_Nat_Bytes.l0 k (wrap64 (Int.tdiv (wrap64 (t507 + 7)) 8)) y508 (y508.length : Int) 0 l0_0)) else (none)) else (none))
theorem nat_Nat_Bytes.mono_l : ∀ k, (∀ y0 y1 y2 y3 y4, LeO (nat_Nat_Bytes.l0 k y0 y1 y2 y3 y4) (nat_Nat_Bytes.l0 (k + 1) y0 y1 y2 y3 y4))
  | 0 => fun _ _ _ _ _ r h => by simp [nat_Nat_Bytes.l0] at h
  | k + 1 => by
    have ih0 := nat_Nat_Bytes.mono_l k
    · intro y0 y1 y2 y3 y4
      unfold nat_Nat_Bytes.l0
      repeat' first
      | (with_reducible exact ih0 _ _ _ _ _)
      | (with_reducible exact LeO.refl _)
      | (with_reducible exact LeO.none _)
      | (with_reducible refine LeO.ite ?_ ?_)
      | (with_reducible refine LeO.bind ?_ (fun _ => ?_))
      | exact ih0 _ _ _ _ _
      | exact LeO.none _
      | refine LeO.ite ?_ ?_
      | refine LeO.bind ?_ (fun _ => ?_)
theorem nat_Nat_Bytes.mono : ∀ a0 k, LeO (nat_Nat_Bytes.f k a0) (nat_Nat_Bytes.f (k + 1) a0) := by
  intro a0 k
  have ih0 := nat_Nat_Bytes.mono_l k
  unfold nat_Nat_Bytes.f
  repeat' first
      | (with_reducible exact ih0 _ _ _ _ _)
      | (with_reducible exact LeO.refl _)
      | (with_reducible exact LeO.none _)
      | (with_reducible refine LeO.ite ?_ ?_)
      | (with_reducible refine LeO.bind ?_ (fun _ => ?_))
      | exact ih0 _ _ _ _ _
      | exact LeO.none _
      | refine LeO.ite ?_ ?_
      | refine LeO.bind ?_ (fun _ => ?_)
set_option maxHeartbeats 8000000 in
set_option maxRecDepth 100000 in
theorem nat_Nat_Bytes.calls (k : Nat) (A0_0 : Option Addr) (c0_0 : Nat) (l0_0 : List Int) (r : ByteArray) (w : World) (hr0_0 : Kd.C (Kd.int .u32) w A0_0 l0_0.length l0_0) (hc0_0 : l0_0.length ≤ c0_0) (h : nat_Nat_Bytes.f k l0_0 = some r) :
    Calls Try.prog 41 #[.agg #[.slice A0_0 l0_0.length c0_0]] w fun e w' => e = .returned (.string r) ∧ Below w.heap.size w w' := by
  have hu31 := Try.underlying31
  have HR0_0 := Aside0.mk hr0_0
  have HC0_0 := Aside0.mk hc0_0
  clear hr0_0 hc0_0
  have HB := Aside0.mk (Below.refl w.heap.size w)
  have H : ((nat_Nat_Bits.f l0_0).bind fun t507 => (if 0 ≤ (wrap64 (Int.tdiv (wrap64 (t507 + 7)) 8)) then (if (wrap64 (Int.tdiv (wrap64 (t507 + 7)) 8) : Int).toNat ≤ 281474976710656 then ((some (List.replicate (wrap64 (Int.tdiv (wrap64 (t507 + 7)) 8) : Int).toNat 0 : List Int)).bind fun y508 => (nat_Nat_Bytes.l0 k (wrap64 (Int.tdiv (wrap64 (t507 + 7)) 8)) y508 (y508.length : Int) 0 l0_0)) else (none)) else (none))) = some r := h
  clear h
  replace H := Option.bind_eq_some_iff.mp H
  obtain ⟨t507, A20, H⟩ := H
  replace H : (if 0 ≤ (wrap64 (Int.tdiv (wrap64 (t507 + 7)) 8)) then (if (wrap64 (Int.tdiv (wrap64 (t507 + 7)) 8) : Int).toNat ≤ 281474976710656 then ((some (List.replicate (wrap64 (Int.tdiv (wrap64 (t507 + 7)) 8) : Int).toNat 0 : List Int)).bind fun y508 => (nat_Nat_Bytes.l0 k (wrap64 (Int.tdiv (wrap64 (t507 + 7)) 8)) y508 (y508.length : Int) 0 l0_0)) else (none)) else (none)) = some r := H
  have A2 := Aside0.mk A20
  clear A20
  obtain ⟨ji3, hji3⟩ : ∃ j_ : Int, (wrap64 (Int.tdiv (wrap64 (t507 + 7)) 8)) = j_ := ⟨_, rfl⟩
  replace H : (if 0 ≤ (ji3) then (if (ji3 : Int).toNat ≤ 281474976710656 then ((some (List.replicate (ji3 : Int).toNat 0 : List Int)).bind fun y508 => (nat_Nat_Bytes.l0 k ji3 y508 (y508.length : Int) 0 l0_0)) else (none)) else (none)) = some r := by first | (rw [hji3] at H; exact H) | (simp only [hji3] at H ⊢; exact H)
  (try rw [hji3] at A2)
  have hji3w : (IntKind.i64.wrap (Int.tdiv (wrap64 (t507 + 7)) 8)) = ji3 := (i64_w _).trans hji3
  by_cases c4 : 0 ≤ (ji3)
  · rw [if_pos c4] at H
    have c4b0 := eq_true c4
    have c4b1 : decide (0 ≤ (ji3)) = true := decide_eq_true c4
    clear c4
    by_cases c5 : (ji3 : Int).toNat ≤ 281474976710656
    · rw [if_pos c5] at H
      have c5b0 := eq_true c5
      have c5b1 : decide ((ji3 : Int).toNat ≤ 281474976710656) = true := decide_eq_true c5
      clear c5
      obtain ⟨y508, hy508⟩ : ∃ y_ : List Int, y_ = (List.replicate (ji3 : Int).toNat 0) := ⟨_, rfl⟩
      replace H : (nat_Nat_Bytes.l0 k ji3 y508 (y508.length : Int) 0 l0_0) = some r := by first | (rw [hy508]; with_reducible exact H) | (have H2_ := (Option.bind_some _ _).symm.trans H; rw [hy508]; with_reducible exact H2_) | (have H2_ := (Option.bind_some _ _).symm.trans H; with_reducible exact H2_) | with_reducible exact H | (rw [hy508]; exact H) | exact H
      have Ny508 := Aside0.mk hy508
      clear hy508
      have H' := Aside0.mk H
      clear H
      go_enter Try.func41, Try.ntmps41
      go_wp2_with (first | ((with_reducible refine gate_dst (N := 1) rfl ?_); refine box_event ?hg (N := 1) ?hd (cs := #[.slice A0_0 l0_0.length c0_0]) (t := 31) ?hr ?_; (case hd => rfl); (case hg => rfl); (case hr => first | (go_simp; done) | (go_simp; rfl)); intro gb506 hg w6 hbox hb; have n0_ := Aside0.mk (below_step (by repeat (first | (with_reducible first | exact HB.out | apply below_alloc | apply pw_below_drewN | apply below_drew1) | exact HB.out)) hb); have n1_ := Aside0.mk (hbox); have n2_ := Aside0.mk ((by rw [hg]; exact (below_size (by repeat (first | (with_reducible first | exact HB.out | apply below_alloc | apply pw_below_drewN | apply below_drew1) | exact HB.out))) : w.heap.size ≤ gb506)); have n3_ := Aside0.mk ((by rw [hg]; exact (below_size (by repeat (first | (with_reducible first | exact HB.out | apply below_alloc | apply pw_below_drewN | apply below_drew1) | exact HB.out))) : w.heap.size ≤ gb506)); clear HB; have HB := n0_; have BK506 := n1_; have GW506 := n2_; have GE506 := n3_; clear n0_ n1_ n2_ n3_; clear hb hbox hg; have hcz7_0 : w6.cell? ⟨gb506, 0, none⟩ = some (.slice A0_0 l0_0.length c0_0) := (blk_cell BK506.out 0).trans rfl; have hfz7_0 := blk_frozen BK506.out 0) | ((with_reducible refine gate_callee (f := 22) rfl ?_); refine goesL_ (some 8) rfl rfl Try.func22 (by kernel_rfl) rfl #[.agg #[.slice A0_0 l0_0.length c0_0]] rfl (by (try simp only [List.map_toArray, List.map_cons, List.map_nil]); first | done | rfl | (simp only [List.length_drop, List.length_take]; rfl)) ?_; (with_reducible refine (nat_Nat_Bits.calls _ _ l0_0 t507 _ ?side1 ?side2 A2.out).mono ?_); (case side1 => repeat (first | exact (Kd.C_below HR0_0.out HB.out) | (with_reducible refine Kd.C_alloc ?_ _) | (with_reducible refine Kd.C_drewN ?_ _) | (with_reducible refine Kd.C_drew ?_))); (case side2 => exact HC0_0.out); rintro e w8 ⟨rfl, hb⟩; refine ⟨_, rfl, ?_⟩; have n0_ := Aside0.mk (blk_below (g := gb506) (o := .cells #[.slice A0_0 l0_0.length c0_0] 31 (0, 0)) (by (with_reducible repeat (first | refine blk_drewN ?_ _ | refine blk_drew ?_ | refine blk_alloc ?_ _)); exact BK506.out) hb); have n1_ := Aside0.mk (below_step (by repeat (first | (with_reducible first | exact HB.out | apply below_alloc | apply pw_below_drewN | apply below_drew1 | refine below_set ?_ GE506.out) | exact HB.out)) hb); clear BK506; clear HB; have BK506 := n0_; have HB := n1_; clear n0_ n1_; (try clear hb); (try clear hb2); (try clear hk); (try clear hi)) | ((with_reducible refine gate_dst (N := 12) rfl ?_); refine Kd.R_make (Kd.int .u8) _ 5 rfl (N := 12) rfl 73 _ _ rfl ji3 rfl rfl Try.underlying73 (.int .u8 0) 1 info5 rfl (by decide) (by omega) 0 (ok := fun _ => True) (okp := fun _ => True) rfl (fun _ hk => hk) trivial (of_decide_eq_true (by first | (with_reducible assumption) | assumption)) (Nat.le_trans (Nat.mul_le_mul_right _ (of_decide_eq_true (by first | (with_reducible assumption) | assumption) : ji3.toNat ≤ 281474976710656)) (by omega)) (Below.refl _ _) (Nat.le_refl _) ?_; intro v509 w9 ho10 hb hg_ hnew_; clear hg_ hnew_; (first | rw [← Ny508.out] at ho10 | (simp only [Int.reduceToNat] at ho10; rw [← Ny508.out] at ho10)); have n0_ := Aside0.mk (Kd.R_lower ho10 (below_size (by repeat (first | (with_reducible first | exact HB.out | apply below_alloc | apply pw_below_drewN | apply below_drew1 | refine below_set ?_ GE506.out) | exact HB.out)))); have n1_ := Aside0.mk (blk_below (g := gb506) (o := .cells #[.slice A0_0 l0_0.length c0_0] 31 (0, 0)) (by (with_reducible repeat (first | refine blk_drewN ?_ _ | refine blk_drew ?_ | refine blk_alloc ?_ _)); exact BK506.out) hb); have n2_ := Aside0.mk (below_step (by repeat (first | (with_reducible first | exact HB.out | apply below_alloc | apply pw_below_drewN | apply below_drew1 | refine below_set ?_ GE506.out) | exact HB.out)) hb); clear BK506; clear HB; have HO510 := n0_; have BK506 := n1_; have HB := n2_; clear n0_ n1_ n2_; clear hb ho10; obtain ⟨Ao11, co11, eo11⟩ := Kd.R_slice HO510.out; subst eo11))
      (try simp only [Act.put, List.setIfInBounds_toArray, List.set_cons_zero, List.set_cons_succ])
      go_loopg [15] k (fun kq v15 w' => ∃ (x4_1 : List Int) (x15_1 : Int), v15 = .int .i64 x15_1 ∧ Aside0 (nat_Nat_Bytes.l0 kq ji3 x4_1 (y508.length : Int) x15_1 l0_0 = some r) ∧ Aside0 (kq ≤ k) ∧ Aside0 (Kd.R (Kd.int .u8) 5 w' w.heap.size (fun _ => True) (.slice Ao11 y508.length co11) x4_1) ∧ Aside0 (w'.heap[gb506]? = some (.cells #[(.slice A0_0 l0_0.length c0_0)] 31 (0, 0))) ∧ Aside0 (Below w.heap.size w w'))
      case atStart => exact ⟨(y508), (0), (by first | rfl | (simp; done) | (simp [*]; done)), H', ⟨Nat.le_refl _⟩, ⟨by (with_reducible repeat (first | apply Kd.R_alloc | apply Kd.R_drewN | apply Kd.R_drew)); exact HO510.out⟩, ⟨by (with_reducible repeat (first | refine blk_drewN ?_ _ | refine blk_drew ?_ | refine blk_alloc ?_ _)); exact BK506.out⟩, ⟨by repeat (first | (with_reducible first | exact HB.out | apply below_alloc | apply pw_below_drewN | apply below_drew1 | refine below_set ?_ GE506.out) | exact HB.out)⟩⟩
      case round =>
        clear H'
        try clear c2
        try clear p2
        try clear c4
        try clear c4b0
        try clear c4b1
        try clear c5
        try clear c5b0
        try clear c5b1
        try clear p6
        try clear hcz7_0
        try clear hfz7_0
        obtain ⟨x4_1, x15_1, rfl, HA, HK1, HO_4, BK506, HB⟩ := hrel
        have hl4_1 := (Kd.R_reads' HO_4.out).1
        rw [hl4_1] at HO_4
        (try simp only [hl4_1])
        (try simp only [hl4_1] at BK506)
        cases gk with
        | zero => exact absurd HA.out (by simp [nat_Nat_Bytes.l0])
        | succ k1 =>
          have H := HA.out
          clear HA
          simp only [nat_Nat_Bytes.l0] at H
          by_cases c12 : x15_1 < (y508.length : Int)
          · rw [if_pos c12] at H
            have c12b0 : decide (x15_1 < (y508.length : Int)) = true := decide_eq_true c12
            (try (have c12b0_hl4_1 := c12b0; rw [hl4_1] at c12b0_hl4_1))
            clear c12
            replace H := Option.bind_eq_some_iff.mp H
            obtain ⟨t511, A130, H⟩ := H
            replace H : (if 0 ≤ (wrap64 (8 * (Int.tmod (wrap64 ((wrap64 (ji3 - 1)) - x15_1)) 4))) then (if 0 ≤ x15_1 then (if x15_1 < (x4_1.length : Int) then (nat_Nat_Bytes.l0 k1 ji3 (x4_1.set (x15_1 : Int).toNat ((shr .u32 t511 (wrap64 (8 * (Int.tmod (wrap64 ((wrap64 (ji3 - 1)) - x15_1)) 4)))) % 256)) (y508.length : Int) (wrap64 (x15_1 + 1)) l0_0) else (none)) else (none)) else (none)) = some r := H
            have A13 := Aside0.mk A130
            clear A130
            obtain ⟨ji14, hji14⟩ : ∃ j_ : Int, (wrap64 (8 * (Int.tmod (wrap64 ((wrap64 (ji3 - 1)) - x15_1)) 4))) = j_ := ⟨_, rfl⟩
            replace H : (if 0 ≤ (ji14) then (if 0 ≤ x15_1 then (if x15_1 < (x4_1.length : Int) then (nat_Nat_Bytes.l0 k1 ji3 (x4_1.set (x15_1 : Int).toNat ((shr .u32 t511 (ji14)) % 256)) (y508.length : Int) (wrap64 (x15_1 + 1)) l0_0) else (none)) else (none)) else (none)) = some r := by first | (rw [hji14] at H; exact H) | (simp only [hji14] at H ⊢; exact H)
            (try rw [hji14] at A13)
            have hji14w : (IntKind.i64.wrap (8 * (Int.tmod (wrap64 ((wrap64 (ji3 - 1)) - x15_1)) 4))) = ji14 := (i64_w _).trans hji14
            by_cases c15 : 0 ≤ (ji14)
            · rw [if_pos c15] at H
              have c15b0 := eq_true c15
              have c15b1 : decide (0 ≤ (ji14)) = true := decide_eq_true c15
              clear c15
              obtain ⟨ji16, hji16⟩ : ∃ j_ : Int, (shr .u32 t511 (ji14)) = j_ := ⟨_, rfl⟩
              replace H : (if 0 ≤ x15_1 then (if x15_1 < (x4_1.length : Int) then (nat_Nat_Bytes.l0 k1 ji3 (x4_1.set (x15_1 : Int).toNat ((ji16) % 256)) (y508.length : Int) (wrap64 (x15_1 + 1)) l0_0) else (none)) else (none)) = some r := by first | (rw [hji16] at H; exact H) | (simp only [hji16] at H ⊢; exact H)
              (try rw [hji16] at A13)
              have hji16_ : (t511 / 2 ^ min (ji14).toNat 32) = ji16 := hji16
              have hji16z : (ji14) ≤ 32 → (t511 / 2 ^ (ji14).toNat) = ji16 := shr_small hji16
              by_cases c17 : 0 ≤ x15_1
              · rw [if_pos c17] at H
                have c17b0 : decide (0 ≤ x15_1) = true := decide_eq_true c17
                clear c17
                by_cases c18 : x15_1 < (x4_1.length : Int)
                · rw [if_pos c18] at H
                  have c18b0 : decide (x15_1 < (x4_1.length : Int)) = true := decide_eq_true c18
                  (try (have c18b0_hl4_1 := c18b0; rw [hl4_1] at c18b0_hl4_1))
                  clear c18
                  obtain ⟨y512, hy512⟩ : ∃ y_ : List Int, y_ = (x4_1.set (x15_1 : Int).toNat ((ji16) % 256)) := ⟨_, rfl⟩
                  replace H : (nat_Nat_Bytes.l0 k1 ji3 y512 (y508.length : Int) (wrap64 (x15_1 + 1)) l0_0) = some r := by first | (rw [hy512]; with_reducible exact H) | (have H2_ := (Option.bind_some _ _).symm.trans H; rw [hy512]; with_reducible exact H2_) | (have H2_ := (Option.bind_some _ _).symm.trans H; with_reducible exact H2_) | with_reducible exact H | (rw [hy512]; exact H) | exact H
                  have Ny512 := Aside0.mk hy512
                  clear hy512
                  have H' := Aside0.mk H
                  clear H
                  have hcz20_0 : wr.cell? ⟨gb506, 0, none⟩ = some (.slice A0_0 l0_0.length c0_0) := (blk_cell BK506.out 0).trans rfl
                  have hfz20_0 := blk_frozen BK506.out 0
                  go_wp2_with (first | ((with_reducible refine gate_callee (f := 56) rfl ?_); refine goesL_ (some 27) rfl rfl Try.func56 (by kernel_rfl) rfl #[.agg #[.slice A0_0 l0_0.length c0_0], .int .i64 (wrap64 (Int.tdiv (wrap64 ((wrap64 (ji3 - 1)) - x15_1)) 4))] rfl (by (try simp only [List.map_toArray, List.map_cons, List.map_nil]); first | done | (simp only [hji3]; rfl) | rfl | (simp only [List.length_drop, List.length_take]; rfl)) ?_; (with_reducible refine (nat_Nat_at.calls _ _ l0_0 (wrap64 (Int.tdiv (wrap64 ((wrap64 (ji3 - 1)) - x15_1)) 4)) t511 _ ?side1 ?side2 A13.out).mono ?_); (case side1 => repeat (first | exact (Kd.C_below HR0_0.out HB.out) | (with_reducible refine Kd.C_alloc ?_ _) | (with_reducible refine Kd.C_drewN ?_ _) | (with_reducible refine Kd.C_drew ?_))); (case side2 => exact HC0_0.out); rintro e w21 ⟨rfl, hb⟩; refine ⟨_, rfl, ?_⟩; have n0_ := Aside0.mk (Kd.R_below (by (with_reducible repeat (first | apply Kd.R_alloc | apply Kd.R_drewN | apply Kd.R_drew)); exact HO_4.out) hb); have n1_ := Aside0.mk (blk_below (g := gb506) (o := .cells #[.slice A0_0 l0_0.length c0_0] 31 (0, 0)) (by (with_reducible repeat (first | refine blk_drewN ?_ _ | refine blk_drew ?_ | refine blk_alloc ?_ _)); exact BK506.out) hb); have n2_ := Aside0.mk (below_step (by repeat (first | (with_reducible first | exact HB.out | apply below_alloc | apply pw_below_drewN | apply below_drew1 | refine below_set ?_ GE506.out) | exact HB.out)) hb); clear HO_4; clear BK506; clear HB; have HO_4 := n0_; have BK506 := n1_; have HB := n2_; clear n0_ n1_ n2_; (try clear hb); (try clear hb2); (try clear hk); (try clear hi); have p19 : 0 ≤ (x15_1 : Int) := of_decide_eq_true (by first | (with_reducible assumption) | assumption); have q19 : (x15_1 : Int) < ((x4_1.length : Int) : Int) := of_decide_eq_true (by first | (with_reducible assumption) | assumption); obtain ⟨go19, co19, eo19, gb19, gl19, cl19, HG19⟩ := Kd.R_form HO_4.out (by omega); (first | cases eo19 | (injection eo19 with ea_ en_ ec_; (first | subst ea_ | (injection ea_ with ea_; subst ea_)); subst ec_; clear en_)); have GB19 := Aside0.mk gb19; have GG19 := Aside0.mk HG19; clear gb19 gl19 HG19; obtain ⟨hx19_0, hf19_0⟩ := Kd.R_celln 0 HO_4.out (x15_1 : Int) p19 q19; replace p19 := eq_true p19; replace q19 := eq_true q19; obtain ⟨hy22_, hz22_⟩ := Kd.R_celln 0 HO_4.out (x15_1 : Int) (of_decide_eq_true (by first | (with_reducible assumption) | assumption)) (of_decide_eq_true (by first | (with_reducible assumption) | assumption)); have HP22 := Kd.R_putg HO_4.out (x15_1 : Int) ((ji16) % 256)) | ((with_reducible refine gate_store (t := 5) (p := 33) rfl ?_); refine store_event (t := 5) (p := 33) (v := ?vo_w23) (w1 := (w21.setCell ⟨go19, (x15_1 : Int).toNat, none⟩ (.int .u8 ((ji16) % 256)))) ?hg ?ho ?hn ?hr ?_; (case ho => rfl); (case hg => rfl); (case hn => rfl); (case hr => first | (go_simp; done) | (go_simp; rfl)); intro w23 hw; have hg : w21.grownBy w23 (some go19) := (by rw [hw]; exact HP22.2); have hp_ : Kd.R (Kd.int .u8) 5 w23 w.heap.size (fun _ => True) (.slice (some ⟨go19, 0, none⟩) x4_1.length co11) y512 := (by rw [hw, Ny512.out]; exact HP22.1); clear HP22; have n0_ := Aside0.mk (hp_); have n1_ := Aside0.mk (blk_grown (g := gb506) (o := .cells #[.slice A0_0 l0_0.length c0_0] 31 (0, 0)) (by (with_reducible repeat (first | refine blk_drewN ?_ _ | refine blk_drew ?_ | refine blk_alloc ?_ _)); exact BK506.out) hg (Kd.R_ne HO_4.out BK506.out (by decide))); have n2_ := Aside0.mk ((by rw [hw]; exact below_set (HB.out) GB19.out : Below w.heap.size w w23)); clear HO_4; clear BK506; clear HB; have HO_4 := n0_; have BK506 := n1_; have HB := n2_; clear n0_ n1_ n2_; clear hg hw hp_))
                  (try simp only [← hl4_1])
                  go_roundg k1
                  case measure => have := HK1.out; omega
                  case rel => exact ⟨(y512), (wrap64 (x15_1 + 1)), (by first | rfl | (simp; done) | (simp [*]; done)), H', ⟨by have := HK1.out; omega⟩, ⟨by (try simp only [hl4_1]); (with_reducible repeat (first | apply Kd.R_alloc | apply Kd.R_drewN | apply Kd.R_drew)); exact HO_4.out⟩, ⟨by (try simp only [hl4_1]); (with_reducible repeat (first | refine blk_drewN ?_ _ | refine blk_drew ?_ | refine blk_alloc ?_ _)); exact BK506.out⟩, ⟨by repeat (first | (with_reducible first | exact HB.out | apply below_alloc | apply pw_below_drewN | apply below_drew1 | refine below_set ?_ GE506.out) | exact HB.out)⟩⟩
                · rw [if_neg c18] at H
                  exact absurd H (by simp)
              · rw [if_neg c17] at H
                exact absurd H (by simp)
            · rw [if_neg c15] at H
              exact absurd H (by simp)
          · rw [if_neg c12] at H
            have c12b0 : decide (x15_1 < (y508.length : Int)) = false := decide_eq_false c12
            (try (have c12b0_hl4_1 := c12b0; rw [hl4_1] at c12b0_hl4_1))
            clear c12
            obtain rfl := Option.some.inj H
            have hcv24 := own_string (P := Try.prog) Try.underlying73 Try.underlying5 Try.underlying9 (Kd.own_of_R HO_4.out)
            go_wp2
            go_ret
            exact ⟨by first | rfl | (simp [errW_none, errW_some] <;> rfl) | (simp only [← hji3]; first | rfl | (simp [errW_none, errW_some] <;> rfl)) | (simp [*, errW_none, errW_some] <;> rfl), by repeat (first | (with_reducible first | exact HB.out | apply below_alloc | apply pw_below_drewN | apply below_drew1 | refine below_set ?_ GE506.out) | exact HB.out)⟩
    · rw [if_neg c5] at H
      exact absurd H (by simp)
  · rw [if_neg c4] at H
    exact absurd H (by simp)

end Go.Proofs.Ytclmdidgioggdaa.Q
