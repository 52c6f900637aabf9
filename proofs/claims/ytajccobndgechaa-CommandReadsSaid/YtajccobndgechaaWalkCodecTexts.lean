/- CodecTexts: the walk, by what each call means. No condition. -/
import Derived.Test.YtajccobndgechaaWalkCodecNums
namespace Go.Proofs.Ytajccobndgechaa.Cod
open Go.RowKit
theorem inNum_small {x : Nat} (hx : x < 9223372036854775808) (most : Int) (hm : (x : Int) ≤ most) (r : List UInt8) : inNum most (numB x ++ r, 0) = (x, (r, 0)) := by
  unfold inNum
  rw [hd_numB hx]
  simp only [ne_eq, not_true_eq_false, if_false]
  rw [if_neg (by omega), ← numB_len, List.drop_left]
theorem inNum_great {x : Nat} (hx : x < 9223372036854775808) (most : Int) (hm : most < (x : Int)) (r : List UInt8) : inNum most (numB x ++ r, 0) = (0, ([], 4)) := by
  unfold inNum
  rw [hd_numB hx]
  simp only [ne_eq, not_true_eq_false, if_false]
  rw [if_pos hm]
theorem inText_ok {l r : List UInt8} {most : Int} (hl : l.length < 9223372036854775808) (hm : (l.length : Int) ≤ max most 0) : inText most (numB l.length ++ (l ++ r), 0) = (l, (r, 0)) := by
  unfold inText
  rw [inNum_small hl _ hm]
  unfold inRaw
  simp
theorem inText_big {l r : List UInt8} {most : Int} (hl : l.length < 9223372036854775808) (hm : max most 0 < (l.length : Int)) : inText most (numB l.length ++ (l ++ r), 0) = ([], ([], 4)) := by
  unfold inText
  rw [inNum_great hl _ hm]
  rfl
theorem inRaw_ok {l r : List UInt8} : inRaw l.length (l ++ r, 0) = (l, (r, 0)) := by
  unfold inRaw
  simp
set_option maxHeartbeats 2000000 in
set_option maxRecDepth 100000 in
theorem W_CodecTexts (a b : ByteArray) (most : Int) (ha : a.size ≤ 140737488351232) (hb : b.size ≤ 140737488351232) (hm : most ≤ 9223372036854775807) (hm0 : -9223372036854775808 ≤ most) (w : World) :
    Calls Try.prog 9 #[.string a, .string b, .int .i64 most] w fun e w' => e = .returned (.bool true) ∧ Below w.heap.size w w' := by
  obtain ⟨A, hA, lA⟩ : ∃ A, A = (bl a).take (300 : Int).toNat ∧ A.length ≤ 300 := ⟨_, rfl, by rw [List.length_take]; exact Nat.min_le_left _ _⟩
  obtain ⟨B, hB, lB⟩ : ∃ B, B = (bl b).take (300 : Int).toNat ∧ B.length ≤ 300 := ⟨_, rfl, by rw [List.length_take]; exact Nat.min_le_left _ _⟩
  have kA := numB_len_le (x := A.length) (by omega)
  have kB := numB_len_le (x := B.length) (by omega)
  have hCa := fun v => C_cut a 300 (by omega) (by omega) ha v
  have hCb := fun v => C_cut b 300 (by omega) (by omega) hb v
  rw [← hA] at hCa
  rw [← hB] at hCb
  clear hA hB
  have zA : (S A).size ≤ 300 := by rw [S_size]; exact lA
  have zB : (S B).size ≤ 300 := by rw [S_size]; exact lB
  have hRa := fun v => R_text (S A) (by omega) v
  have hRb := fun v => R_text (S B) (by omega) v
  simp only [S_size, bl_S] at hRa hRb
  go_enter Try.func9, Try.ntmps9
  go_wp2_with (first
    | (go_at_call 35; with_reducible refine (C_awake1 _).mono ?_; rintro e v ⟨rfl, hv⟩)
    | (go_at_call 19; with_reducible refine (hCa _).mono ?_; rintro e u1 ⟨rfl, rfl⟩)
    | (go_at_call 19; with_reducible refine (hCb _).mono ?_; rintro e u2 ⟨rfl, rfl⟩))
  have o0 := Bd.fresh (fresh_out v) (Nat.le_refl _)
  have hW : Below w.heap.size w (v.alloc freshOut) := hv.alloc hv.size _
  go_wp2_with (go_at_call 42; with_reducible refine (C_otext (S A) o0 (by simp; omega)).mono ?_; rintro e w1 ⟨rfl, h1, f1⟩)
  rw [S_size, bl_S, List.nil_append] at h1
  go_wp2_with (go_at_call 43; with_reducible refine (C_oraw _ h1 (by have : (⟨#[45]⟩ : ByteArray).size = 1 := rfl; simp only [List.length_append]; omega)).mono ?_; rintro e w2 ⟨rfl, h2, f2⟩)
  go_wp2_with (go_at_call 42; with_reducible refine (C_otext (S B) h2 (by have : (bl (⟨#[45]⟩ : ByteArray)).length = 1 := rfl; simp only [List.length_append]; omega)).mono ?_; rintro e w3 ⟨rfl, h3, f3⟩)
  rw [S_size, bl_S] at h3
  go_wp2_with (first
    | (go_at_call 37; with_reducible refine (C_obytes h3 (by simp [numB_ne])).mono ?_; rintro e w4 ⟨rfl, h4, f4⟩)
    | (go_at_call 38; with_reducible refine (C_of _ _ (by have : (bl (⟨#[45]⟩ : ByteArray)).length = 1 := rfl; rw [S_size]; simp only [List.length_append]; omega)).mono ?_; rintro e w5 ⟨rfl, h5, f5⟩; rw [bl_S] at h5))
  have hb4 : Below w.heap.size w w4 := hW.trans ((((f1.trans f2).trans (f3.trans f4)).1).mono hv.size)
  have hb5 : Below w.heap.size w w5 := hb4.trans (f5.mono hb4.size)
  have hs4 := hb4.size
  clear f1 f2 f3 f4 f5 h1 h2 h3 h4 o0 hW hb4
  obtain ⟨R, eR⟩ : ∃ R, R = w4.heap.size := ⟨_, rfl⟩
  rw [← eR] at h5 hs4 ⊢
  clear eR hv
  have e1 := inText_ok (l := A) (r := bl ⟨#[45]⟩ ++ (numB B.length ++ B)) (most := 300) (by omega) (by omega)
  have e2 : inRaw (1 : Int).toNat (bl ⟨#[45]⟩ ++ (numB B.length ++ B), 0) = (bl ⟨#[45]⟩, (numB B.length ++ B, 0)) := inRaw_ok (l := bl ⟨#[45]⟩)
  have e2' : inRaw 1 (bl ⟨#[45]⟩ ++ (numB B.length ++ B), 0) = (bl ⟨#[45]⟩, (numB B.length ++ B, 0)) := e2
  have e3 := inText_ok (l := B) (r := []) (most := 300) (by omega) (by omega)
  rw [List.append_nil] at e3
  have hP : S (numB A.length ++ A ++ bl ⟨#[45]⟩ ++ (numB B.length ++ B)) = S (numB A.length ++ A) ++ ⟨#[45]⟩ ++ S (numB B.length ++ B) := by
    rw [← S_append, ← S_append, S_bl]
  have hP' : S (numB A.length ++ (A ++ (bl ⟨#[45]⟩ ++ (numB B.length ++ B)))) = S (numB A.length ++ A) ++ ⟨#[45]⟩ ++ S (numB B.length ++ B) := by
    rw [← hP]; simp only [List.append_assoc]
  simp only [hP']
  have hi2 : (inText 300 (numB A.length ++ (A ++ (bl ⟨#[45]⟩ ++ (numB B.length ++ B))), 0)) = _ := e1
  clear hP hP'
  have zTA : (S (numB A.length ++ A)).size ≤ 309 := by rw [S_size, List.length_append]; omega
  have zTB : (S (numB B.length ++ B)).size ≤ 309 := by rw [S_size, List.length_append]; omega
  obtain ⟨TA, eTA⟩ : ∃ TA, TA = S (numB A.length ++ A) := ⟨_, rfl⟩
  obtain ⟨TB, eTB⟩ : ∃ TB, TB = S (numB B.length ++ B) := ⟨_, rfl⟩
  rw [← eTA] at hRa zTA
  rw [← eTB] at hRb zTB
  simp only [← eTA, ← eTB]
  have hTA : bl TA = numB A.length ++ A := by rw [eTA, bl_S]
  clear eTA eTB
  have hd : S (bl ⟨#[45]⟩) = ⟨#[45]⟩ := S_bl _
  have z0 : inEnd (([], 0) : St) = 0 := rfl
  go_wp2_with (go_at_call 44; with_reducible refine (C_itext 300 h5).mono ?_; rintro e w6 ⟨rfl, h6, f6⟩)
  rw [e1] at h6
  go_wp2_with (go_at_call 45; with_reducible refine (C_iraw 1 (by omega) (by omega) h6).mono ?_; rintro e w7 ⟨rfl, h7, f7⟩)
  rw [e2] at h7
  go_wp2_with (go_at_call 44; with_reducible refine (C_itext 300 h7).mono ?_; rintro e w8 ⟨rfl, h8, f8⟩)
  rw [e3] at h8
  clear e1 e2 e3 hi2 h5 h6 h7
  by_cases hmost : max most 0 < (A.length : Int)
  · have e4 := inText_big (l := A) (r := []) (most := most) (by omega) hmost
    rw [List.append_nil] at e4
    have hgt : (S A).size > (max most 0).toNat := by rw [S_size]; omega
    have hgt' : ((S A).size : Int) > max most 0 := by rw [S_size]; omega
    have hS0 : ((S []).toList == ([] : List UInt8)) = true := by rw [S_toList]; rfl
    go_wp2_with (first
      | (go_at_call 46; with_reducible refine (hRa _).mono ?_; rintro e w9 ⟨rfl, f9⟩; have h9 := h8.below f9)
      | (go_at_call 46; with_reducible refine (hRb _).mono ?_; rintro e w10 ⟨rfl, f10⟩; have h10 := h9.below f10; clear h8)
      | (go_at_call 46; with_reducible refine (hRa _).mono ?_; rintro e w15 ⟨rfl, f15⟩)
      | (go_at_call 41; with_reducible refine (C_end h10).mono ?_; rintro e w11 ⟨rfl, rfl⟩)
      | (go_at_call 38; with_reducible refine (C_of TA _ (by omega)).mono ?_; rintro e w12 ⟨rfl, h12, f12⟩; rw [hTA] at h12)
      | (go_at_call 44; with_reducible refine (C_itext most h12).mono ?_; rintro e w13 ⟨rfl, h13, f13⟩; rw [e4] at h13)
      | (go_at_call 47; with_reducible refine (C_err h13).mono ?_; rintro e w14 ⟨rfl, rfl⟩))
    go_ret
    refine ⟨ret_bool ?_, ?_⟩
    · rfl
    · have s5 := hb5.size; have s6 := f6.size; have s7 := f7.size; have s8 := f8.size; have s9 := f9.size; have s10 := f10.size; have s15 := f15.size; have s12 := f12.size; have s13 := f13.size
      exact hb5.trans ((((f6.trans f7).trans f8).below hs4 s5).trans (((f9.mono (by omega)).trans (f10.mono (by omega))).trans ((f15.mono (by omega)).trans ((f12.mono (by omega)).trans (f13.below (by omega) (by omega))))))
  · have e4 := inText_ok (l := A) (r := []) (most := most) (by omega) (by omega)
    rw [List.append_nil] at e4
    have hgt' : ¬ ((S A).size : Int) > max most 0 := by rw [S_size]; omega
    go_wp2_with (first
      | (go_at_call 46; with_reducible refine (hRa _).mono ?_; rintro e w9 ⟨rfl, f9⟩; have h9 := h8.below f9)
      | (go_at_call 46; with_reducible refine (hRb _).mono ?_; rintro e w10 ⟨rfl, f10⟩; have h10 := h9.below f10; clear h8)
      | (go_at_call 46; with_reducible refine (hRa _).mono ?_; rintro e w15 ⟨rfl, f15⟩)
      | (go_at_call 41; with_reducible refine (C_end h10).mono ?_; rintro e w11 ⟨rfl, rfl⟩)
      | (go_at_call 38; with_reducible refine (C_of TA _ (by omega)).mono ?_; rintro e w12 ⟨rfl, h12, f12⟩; rw [hTA] at h12)
      | (go_at_call 44; with_reducible refine (C_itext most h12).mono ?_; rintro e w13 ⟨rfl, h13, f13⟩; rw [e4] at h13)
      | (go_at_call 47; with_reducible refine (C_err h13).mono ?_; rintro e w14 ⟨rfl, rfl⟩))
    go_ret
    refine ⟨ret_bool ?_, ?_⟩
    · rfl
    · have s5 := hb5.size; have s6 := f6.size; have s7 := f7.size; have s8 := f8.size; have s9 := f9.size; have s10 := f10.size; have s15 := f15.size; have s12 := f12.size; have s13 := f13.size
      exact hb5.trans ((((f6.trans f7).trans f8).below hs4 s5).trans (((f9.mono (by omega)).trans (f10.mono (by omega))).trans ((f15.mono (by omega)).trans ((f12.mono (by omega)).trans (f13.below (by omega) (by omega))))))
end Go.Proofs.Ytajccobndgechaa.Cod
