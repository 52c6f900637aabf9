/- CodecNums: the walk, by what each call means. No condition. -/
import Derived.Test.YtajccobndgechaaAwake1
namespace Go.Proofs.Ytajccobndgechaa.Cod
open Go.RowKit
abbrev freshOut : Obj := .cells #[.pointer none, .slice none 0 0] 70 (0, 0)
theorem three_fresh (v : World) : (((v.alloc freshOut).alloc freshOut).alloc freshOut).heap[v.heap.size]? = some freshOut ∧ (((v.alloc freshOut).alloc freshOut).alloc freshOut).heap[v.heap.size + 1]? = some freshOut ∧ (((v.alloc freshOut).alloc freshOut).alloc freshOut).heap[v.heap.size + 1 + 1]? = some freshOut := by
  refine ⟨?_, ?_, ?_⟩
  · rw [Below.heap_alloc _ _ _ (by simp; omega), Below.heap_alloc _ _ _ (by simp)]; exact heap_alloc_new _ _
  · rw [Below.heap_alloc _ _ _ (by simp)]
    have := heap_alloc_new (v.alloc freshOut) freshOut
    simpa using this
  · have := heap_alloc_new ((v.alloc freshOut).alloc freshOut) freshOut
    simpa using this
theorem inNum_numB {x : Nat} (hx : x < 9223372036854775808) (r : List UInt8) : inNum 9223372036854775807 (numB x ++ r, 0) = (x, (r, 0)) := by
  unfold inNum
  rw [hd_numB hx]
  simp only [ne_eq, not_true_eq_false, if_false]
  rw [if_neg (by omega), ← numB_len, List.drop_left]
theorem numB_ne (x : Nat) : numB x ≠ [] := by simp [numB]
set_option maxHeartbeats 2000000 in
set_option maxRecDepth 100000 in
theorem W_CodecNums (x y : Int) (hx : x ≤ 9223372036854775807) (hx0 : -9223372036854775808 ≤ x) (hy : y ≤ 9223372036854775807) (hy0 : -9223372036854775808 ≤ y) (w : World) :
    Calls Try.prog 8 #[.int .i64 x, .int .i64 y] w fun e w' => e = .returned (.bool true) ∧ Below w.heap.size w w' := by
  have hX : x.toNat < 9223372036854775808 := by omega
  have hY : y.toNat < 9223372036854775808 := by omega
  have lX := numB_len_le hX
  have lY := numB_len_le hY
  go_enter Try.func8, Try.ntmps8
  go_wp2_with (go_at_call 35; with_reducible refine (C_awake1 _).mono ?_; rintro e v ⟨rfl, hv⟩)
  obtain ⟨o0, a0, c0⟩ := three_fresh v
  have hW : Below v.heap.size v (((v.alloc freshOut).alloc freshOut).alloc freshOut) := (((Below.refl _ _).alloc (Nat.le_refl _) _).alloc (by simp) _).alloc (by simp; omega) _
  obtain ⟨W, eW⟩ : ∃ W, W = (((v.alloc freshOut).alloc freshOut).alloc freshOut) := ⟨_, rfl⟩
  rw [← eW] at o0 a0 c0 hW ⊢
  clear eW
  obtain ⟨V, eV⟩ : ∃ V, V = v.heap.size := ⟨_, rfl⟩
  rw [← eV] at o0 a0 c0 hW ⊢
  have hwV : w.heap.size ≤ V := by rw [eV]; exact hv.size
  have hvW := hv.trans (hW.mono hwV)
  clear hv hW eV
  go_wp2_with (go_at_call 36; with_reducible refine (C_onum x hx hx0 (Bd.fresh o0 (Nat.le_refl _)) (by simp)).mono ?_; rintro e w1 ⟨rfl, h1, f1⟩)
  rw [List.nil_append] at h1
  go_wp2_with (first
    | (go_at_call 36; with_reducible refine (C_onum y hy hy0 h1 (by omega)).mono ?_; rintro e w2 ⟨rfl, h2, f2⟩)
    | (go_at_call 37; with_reducible refine (C_obytes h2 (by simp [numB_ne])).mono ?_; rintro e w3 ⟨rfl, h3, f3⟩))
  have f13 := (f1.trans f2).trans f3
  have a3 := f13.kept a0 (by omega) (by decide)
  have c3 := f13.kept c0 (by omega) (by decide)
  clear f1 f2 f3 h1 h2 h3 o0 a0 c0
  go_wp2_with (first
    | (go_at_call 36; with_reducible refine (C_onum x hx hx0 (Bd.fresh (B := V) a3 (by omega)) (by simp)).mono ?_; rintro e w4 ⟨rfl, h4, f4⟩; rw [List.nil_append] at h4)
    | (go_at_call 37; with_reducible refine (C_obytes h4 (numB_ne _)).mono ?_; rintro e w5 ⟨rfl, h5, f5⟩))
  have f45 := f4.trans f5
  have c5 := f45.kept c3 (by omega) (by decide)
  clear f4 f5 h4 h5 a3 c3
  go_wp2_with (first
    | (go_at_call 36; with_reducible refine (C_onum y hy hy0 (Bd.fresh (B := V) c5 (by omega)) (by simp)).mono ?_; rintro e w6 ⟨rfl, h6, f6⟩; rw [List.nil_append] at h6)
    | (go_at_call 37; with_reducible refine (C_obytes h6 (numB_ne _)).mono ?_; rintro e w7 ⟨rfl, h7, f7⟩)
    | (go_at_call 38; with_reducible refine (C_of _ _ (by rw [S_size, List.length_append]; omega)).mono ?_; rintro e w8 ⟨rfl, h8, f8⟩; rw [bl_S] at h8))
  have hV3 := f13.1.size
  have hV5 := f45.1.size
  have hV6 := f6.1.size
  have hV7 := f7.1.size
  have hb7 : Below w.heap.size w w7 := hvW.trans ((((f13.1.trans f45.1).trans f6.1).trans f7.1).mono hwV)
  have hb8 : Below w.heap.size w w8 := hb7.trans (f8.mono hb7.size)
  have hs7 := hb7.size
  have e1 := inNum_numB hX (numB y.toNat)
  have e2 := inNum_numB hY []
  rw [List.append_nil] at e2
  clear hvW f13 f45 f6 f7 f8 h6 h7 c5 hV3 hV5 hV6 hV7 hb7
  obtain ⟨R, eR⟩ : ∃ R, R = w7.heap.size := ⟨_, rfl⟩
  rw [← eR] at h8 hs7 ⊢
  clear eR
  go_wp2_with (go_at_call 39; with_reducible refine (C_inum 9223372036854775807 h8).mono ?_; rintro e w9 ⟨rfl, h9, f9⟩)
  rw [e1] at h9
  have hT : (S (numB x.toNat)).size ≤ 9 := by rw [S_size]; exact lX
  have hU : (S (numB y.toNat)).size ≤ 9 := by rw [S_size]; exact lY
  have hP : S (numB x.toNat ++ numB y.toNat) = S (numB x.toNat) ++ S (numB y.toNat) := (S_append _ _).symm
  rw [hP]
  have hin : IsIn R (inNum 9223372036854775807 (numB y.toNat, 0)).2 = IsIn R ([], 0) := by rw [e2]
  have hCx := fun v => R_num x hx hx0 v
  have hCy := fun v => R_num y hy hy0 v
  have hmx : max x 0 = max y 0 ↔ x.toNat = y.toNat := by omega
  have hpre := fun r => numB_pre hX hY r
  have htu : x.toNat = y.toNat → S (numB x.toNat) = S (numB y.toNat) := by intro e; rw [e]
  have hpe : (S (numB y.toNat)).extract 0 (S (numB x.toNat)).size = S (numB x.toNat) → x.toNat = y.toNat := by
    intro e
    have e2 := congrArg bl e
    rw [bl_take, S_size, bl_S, bl_S] at e2
    refine hpre ((numB y.toNat).drop (numB x.toNat).length) ?_
    conv => lhs; rw [← List.take_append_drop (numB x.toNat).length (numB y.toNat), e2]
  generalize S (numB x.toNat) = T at hT hCx hpe htu ⊢
  generalize S (numB y.toNat) = U at hU hCy hpe htu ⊢
  clear hpre hP e1 h8
  have hTU : ((T ++ U).toList == (T ++ U).toList) = true := beq_self_eq_true _
  by_cases hxy : x.toNat = y.toNat
  · have hm := hmx.2 hxy
    have htu := htu hxy
    subst htu
    have hex : T.extract 0 T.size = T := bl_inj (by rw [bl_take, List.take_of_length_le (by rw [bl_len]; omega)])
    have hTT : (T.toList == T.toList) = true := beq_self_eq_true _
    clear hpe hmx hxy
    go_wp2_with (first
      | (go_at_call 39; with_reducible refine (C_inum 9223372036854775807 h9).mono ?_; rintro e w10 ⟨rfl, h10, f10⟩; rw [hin] at h10)
      | (go_at_call 40; with_reducible refine (hCx _).mono ?_; rintro e w11 ⟨rfl, f11⟩)
      | (go_at_call 40; with_reducible refine (hCy _).mono ?_; rintro e w12 ⟨rfl, f12⟩)
      | (go_at_call 41; with_reducible refine (C_end ((h10.below f11).below f12)).mono ?_; rintro e w13 ⟨rfl, rfl⟩))
    go_ret
    refine ⟨ret_bool ?_, ?_⟩
    · rfl
    · have s8 := hb8.size; have s9 := f9.size; have s10 := f10.size; have s11 := f11.size
      exact hb8.trans (((f9.trans f10).below hs7 s8).trans ((f11.mono (by omega)).trans (f12.mono (by omega))))
  · have hm : ¬ max x 0 = max y 0 := fun e => hxy (hmx.1 e)
    have hm2 : (max x 0 == max y 0) = false := by rw [beq_eq_false_iff_ne]; exact hm
    have hne : ((U.extract 0 T.size).toList == T.toList) = false := by
      rw [beq_eq_false_iff_ne, ByteArray.toList_eq, ByteArray.toList_eq]
      intro e
      exact hxy (hpe (bl_inj e))
    clear hpe hmx hxy htu
    by_cases hle : T.size ≤ U.size
    · go_wp2_with (first
        | (go_at_call 39; with_reducible refine (C_inum 9223372036854775807 h9).mono ?_; rintro e w10 ⟨rfl, h10, f10⟩; rw [hin] at h10)
        | (go_at_call 40; with_reducible refine (hCx _).mono ?_; rintro e w11 ⟨rfl, f11⟩)
        | (go_at_call 40; with_reducible refine (hCy _).mono ?_; rintro e w12 ⟨rfl, f12⟩)
        | (go_at_call 41; with_reducible refine (C_end ((h10.below f11).below f12)).mono ?_; rintro e w13 ⟨rfl, rfl⟩))
      go_ret
      refine ⟨ret_bool ?_, ?_⟩
      · rfl
      · have s8 := hb8.size; have s9 := f9.size; have s10 := f10.size; have s11 := f11.size
        exact hb8.trans (((f9.trans f10).below hs7 s8).trans ((f11.mono (by omega)).trans (f12.mono (by omega))))
    · go_wp2_with (first
        | (go_at_call 39; with_reducible refine (C_inum 9223372036854775807 h9).mono ?_; rintro e w10 ⟨rfl, h10, f10⟩; rw [hin] at h10)
        | (go_at_call 40; with_reducible refine (hCx _).mono ?_; rintro e w11 ⟨rfl, f11⟩)
        | (go_at_call 40; with_reducible refine (hCy _).mono ?_; rintro e w12 ⟨rfl, f12⟩)
        | (go_at_call 41; with_reducible refine (C_end ((h10.below f11).below f12)).mono ?_; rintro e w13 ⟨rfl, rfl⟩))
      go_ret
      refine ⟨ret_bool ?_, ?_⟩
      · rfl
      · have s8 := hb8.size; have s9 := f9.size; have s10 := f10.size; have s11 := f11.size
        exact hb8.trans (((f9.trans f10).below hs7 s8).trans ((f11.mono (by omega)).trans (f12.mono (by omega))))
end Go.Proofs.Ytajccobndgechaa.Cod
