/- GainSums: the walk, by what its calls mean. -/
import Derived.Test.YtclmdidgioggdaaGainSum
namespace Go.Proofs.Ytclmdidgioggdaa.Num
open Go.RowKit Go.Proofs.YtclmdidgioggdaaW.PrintWords Go.Proofs.YtclmdidgioggdaaW.PrintLast Go.Proofs.Ytclmdidgioggdaa.Q
attribute [local irreducible] IsN IsNk IsNF IsT
attribute [local go_sem ↓] Go.wp_at_zero Go.wp_at_succ
def SumsRel (w : World) (a : Nat) (A : Option Addr) (l : List (Nat × Int)) (v i : Value) (wr : World) : Prop :=
  ∃ (k : Nat), k ≤ l.length ∧ i = .int .i64 k ∧ IsT wr v (a + tot (l.take k)) ∧ Steps wr A l ∧ Below w.heap.size w wr
theorem Steps.take {w : World} {A : Option Addr} {l : List (Nat × Int)} (h : Steps w A l) (n : Nat) : Steps w A (l.take n) := by
  intro i hi
  have hi' : i < l.length := by rw [List.length_take] at hi; omega
  have := h i hi'
  simpa using this
theorem IsT.slice {w : World} {v : Value} {a : Nat} (h : IsT w v a) : ∃ A c, v = .slice A (T a).length c := by
  obtain ⟨A, c, hv, _⟩ := h.reads
  exact ⟨A, c, hv⟩
theorem SS_step {w W W' : World} {p : Addr} {V Tv : Value} {X : Nat} (h : W.cell? p = some V ∧ IsK W V X 60 ∧ IsT W Tv X ∧ Below w.heap.size w W) (hb : Below W.heap.size W W') :
    W'.cell? p = some V ∧ IsK W' V X 60 ∧ IsT W' Tv X ∧ Below w.heap.size w W' :=
  ⟨pw_cell_below hb h.1, h.2.1.below hb, h.2.2.1.below hb, below_then h.2.2.2 h.2.2.2.size hb⟩
set_option maxHeartbeats 4000000 in
set_option maxRecDepth 100000 in
theorem W_GainSums {w : World} {a : Nat} {A : Option Addr} {c : Nat} {l : List (Nat × Int)} (ha : a < 18446744073709551616) (hl : Steps w A l) (hw : wide l) (hc : l.length ≤ c) (hc2 : c ≤ 9223372036854775807) :
    Calls Try.prog 9 #[.int .u64 a, .slice A l.length c] w fun e w' => e = .returned (.bool true) ∧ Below w.heap.size w w' := by
  obtain ⟨L, hL, hSL, hWL, hL12⟩ : ∃ L, (l.length ≤ 12 ∧ L = l ∨ 12 < l.length ∧ L.length = 12) ∧ Steps w A L ∧ wide L ∧ L.length ≤ 12 := by
    by_cases h : l.length ≤ 12
    · exact ⟨l, .inl ⟨h, rfl⟩, hl, hw, h⟩
    · have e : (l.take 12).length = 12 := by rw [List.length_take]; omega
      exact ⟨l.take 12, .inr ⟨by omega, e⟩, hl.take 12, fun p hp => hw p (List.mem_of_mem_take hp), by omega⟩
  have hlc : (l.length : Int) ≤ (c : Int) := by omega
  rcases hL with ⟨hle, hLl⟩ | ⟨hgt, hLl⟩
  · subst hLl
    have hle' : ¬ (L.length : Int) > 12 := by omega
    clear hl hw
    go_enter Try.func9, Try.ntmps9
    go_wp2_with (first
      | (go_at_call 16; with_reducible refine (C_awake4 _).mono ?_; rintro e w0 ⟨rfl, hb0⟩)
      | (go_at_call 34; with_reducible refine (C_rof _ a ha).mono ?_; rintro e w1 ⟨x1, rfl, hx1, hb1⟩))
    have hb01 := hb0.trans (hb1.mono hb0.size)
    go_loopw [5, 20] (fun v i wr => SumsRel w a A L v i wr) (fun _ i _ => 100 - (intOf i).toNat)
    case atStart => exact ⟨0, Nat.zero_le _, rfl, by simpa [tot] using hx1, (hSL.below hb01), hb01⟩
    case round =>
      obtain ⟨k, hk, rfl, hx, hst, hb⟩ := hrel
      clear hx1 hb1 hb0 hb01
      by_cases hlt : k < L.length
      · obtain ⟨ad, rfl, had, h1, h2⟩ := hst k hlt
        obtain ⟨hp, hn0, hn1⟩ := hWL L[k] (List.getElem_mem hlt)
        have htk : L.take (k + 1) = L.take k ++ [L[k]] := by rw [List.take_add_one, List.getElem?_eq_getElem hlt]; rfl
        have htot := tot_lt (L.take k) (fun q hq => hWL q (List.mem_of_mem_take hq))
        have hlen : (L.take k).length ≤ 12 := by rw [List.length_take]; omega
        have hlti : (k : Int) < 12 := by omega
        have hltl : (k : Int) < (L.length : Int) := by omega
        have HTK := Lib.hid htk
        have hgq := gK_lt L[k].1 L[k].2 hp hn1
        generalize L[k] = q at h1 h2 hp hn0 hn1 HTK hgq
        obtain ⟨p, n⟩ := q
        simp only at h1 h2 hp hn0 hn1 hgq
        obtain ⟨s0, hs0⟩ : ∃ s0, s0 = a + tot (L.take k) := ⟨_, rfl⟩
        have hs30 : s0 < 10 ^ 30 := by omega
        rw [← hs0] at hx
        have HS0 := Lib.hid hs0
        clear htot hlen htk hs0
        have hxa := hx.below (below_alloc (Below.refl _ _) (.cells #[.int .u64 p, .int .i64 n] 53))
        go_wp2_with (first
          | (go_at_call 28; with_reducible refine (C_rgain _ p n hp hn0 hn1).mono ?_; rintro e w2 ⟨x2, rfl, hx2, hb2⟩)
          | (go_at_call 35; with_reducible refine (C_radd (hxa.below hb2) hx2 hs30 hgq (by omega) (by omega)).mono ?_; rintro e w3 ⟨x3, rfl, hx3, hb3⟩))
        go_roundw
        case rel =>
          have hb13 : Below wr.heap.size wr w3 := (below_alloc (Below.refl _ _) _).trans ((hb2.mono (by simp)).trans (hb3.mono (by have := hb2.size; simp at this; omega)))
          refine ⟨k + 1, by omega, by go_num, ?_, hst.below hb13, hb.trans (hb13.mono hb.size)⟩
          rw [HTK.out, tot_snoc, ← Nat.add_assoc, ← HS0.out]
          exact hx3
        case measure => simp [intOf]; omega
      · obtain rfl : k = L.length := by omega
        rw [List.take_length] at hx
        have htot := tot_lt L hWL
        obtain ⟨A5, c5, rfl⟩ := hx.slice
        go_wp2_with (go_at_call 30; with_reducible refine (K_of _ a ha).mono ?_; rintro e w4 ⟨x4, rfl, hx4, hb4⟩)
        have hst4 := hst.below hb4
        refine (C_sum (hx4.mono (l := 30) (by omega)) hst4 hWL hL12).mono ?_
        rintro e w5 ⟨x5, rfl, hx5, hb5⟩
        obtain ⟨A6, c6, rfl⟩ := hx5.1.slice
        go_wp2
        have hb45 := hb4.trans (hb5.mono hb4.size)
        have hbw5 := hb.trans (hb45.mono hb.size)
        have ht5 := hx.below hb45
        have a30 : a + tot L < 10 ^ 30 := by omega
        have hgt0 : ¬ a + tot L < a := by omega
        obtain ⟨W, hW⟩ : ∃ W, W = w5.alloc (.cells #[.slice A6 (N (a + tot L)).length c6] 31) := ⟨_, rfl⟩
        have hWb : Below w5.heap.size w5 W := by subst hW; exact below_alloc (Below.refl _ _) _
        have h0 : W.cell? ⟨w5.heap.size, 0, none⟩ = some (.slice A6 (N (a + tot L)).length c6) ∧ IsK W (.slice A6 (N (a + tot L)).length c6) (a + tot L) 60 ∧ IsT W (.slice A5 (T (a + tot L)).length c5) (a + tot L) ∧ Below w.heap.size w W :=
          ⟨by subst hW; simp, hx5.below hWb, ht5.below hWb, hbw5.trans (hWb.mono hbw5.size)⟩
        rw [← hW]
        have H0 := Aside0.mk h0
        generalize w5.heap.size = b5 at h0 H0
        generalize (Value.slice A6 (N (a + tot L)).length c6) = V at h0 H0 hW hx5
        generalize (Value.slice A5 (T (a + tot L)).length c5) = Tv at h0 H0 ht5 hx
        clear hx5 hbw5 ht5 hb45 hW hWb hx hb4 hb5 hst4 hx4 hst hb
        generalize a + tot L = X at h0 H0 a30 hgt0
        have hd2 : decide (X < a) = false := decide_eq_false hgt0
        obtain ⟨q, z, hd1, hc1, hqz⟩ : ∃ (q : Bool) (z : Int), decide (a < X) = q ∧ (if X < a then (-1 : Int) else if a < X then 1 else 0) = z ∧ (q = true ∧ z = 1 ∨ q = false ∧ z = 0) := by
          by_cases h : a < X
          · exact ⟨_, _, rfl, rfl, .inl ⟨decide_eq_true h, by rw [if_neg hgt0, if_pos h]⟩⟩
          · exact ⟨_, _, rfl, rfl, .inr ⟨decide_eq_false h, by rw [if_neg hgt0, if_neg h]⟩⟩
        have hOf := fun v => K_of v a ha
        clear hgt0 hle hle' hlc hc hc2 hk hlt htot hL12 hWL hSL
        rcases hqz with ⟨rfl, rfl⟩ | ⟨rfl, rfl⟩
        all_goals
          go_region_held (fun W' => W'.cell? ⟨b5, 0, none⟩ = some V ∧ IsK W' V X 60 ∧ IsT W' Tv X ∧ Below w.heap.size w W')
            (first | exact SS_step ‹_ ∧ IsK _ V X 60 ∧ IsT _ Tv X ∧ Below w.heap.size w _› hw1 | exact SS_step H0.out (below_drew1 (Below.refl _ _)))
            (first
              | (go_at_call 26; have hS_ := ‹_ ∧ IsK _ V X 60 ∧ IsT _ Tv X ∧ Below w.heap.size w _›; with_reducible refine (K_text hS_.2.1 (by omega)).mono ?_; clear hS_; rintro e w1 ⟨rfl, hw1⟩)
              | (go_at_call 27; have hS_ := ‹_ ∧ IsK _ V X 60 ∧ IsT _ Tv X ∧ Below w.heap.size w _›; with_reducible refine (C_rtext hS_.2.2.1 a30 (by omega)).mono ?_; clear hS_; rintro e w1 ⟨rfl, hw1⟩)
              | (go_at_call 30; with_reducible refine (hOf _).mono ?_; rintro e w1 ⟨x1, rfl, hx1, hw1⟩)
              | (go_at_call 29; have hS_ := ‹_ ∧ IsK _ V X 60 ∧ IsT _ Tv X ∧ Below w.heap.size w _›; first
                  | (with_reducible refine (C_heavier hS_.2.1 ‹IsK _ _ a 20› (by omega) (by omega)).mono ?_; rw [hd1]; clear hS_; rintro e w1 ⟨rfl, hw1⟩)
                  | (with_reducible refine (C_heavier ‹IsK _ _ a 20› hS_.2.1 (by omega) (by omega)).mono ?_; rw [hd2]; clear hS_; rintro e w1 ⟨rfl, hw1⟩))
              | (go_at_call 33; have hS_ := ‹_ ∧ IsK _ V X 60 ∧ IsT _ Tv X ∧ Below w.heap.size w _›; with_reducible refine (K_cmp hS_.2.1 ‹IsK _ _ a 20› (by omega) (by omega)).mono ?_; rw [hc1]; clear hS_; rintro e w1 ⟨rfl, hw1⟩))
          have hS := ‹_ ∧ IsK _ V X 60 ∧ IsT _ Tv X ∧ Below w.heap.size w _›
          go_wp2
          go_ret
          exact ⟨rfl, hS.2.2.2⟩
  · have hgt' : (l.length : Int) > 12 := by omega
    have hc12 : (12 : Int) ≤ (c : Int) := by omega
    have hLl' : (L.length : Int) = 12 := by omega
    clear hl hw
    go_enter Try.func9, Try.ntmps9
    go_wp2_with (first
      | (go_at_call 16; with_reducible refine (C_awake4 _).mono ?_; rintro e w0 ⟨rfl, hb0⟩)
      | (go_at_call 34; with_reducible refine (C_rof _ a ha).mono ?_; rintro e w1 ⟨x1, rfl, hx1, hb1⟩))
    have hb01 := hb0.trans (hb1.mono hb0.size)
    go_loopw [5, 20] (fun v i wr => SumsRel w a A L v i wr) (fun _ i _ => 100 - (intOf i).toNat)
    case atStart => exact ⟨0, Nat.zero_le _, rfl, by simpa [tot] using hx1, (hSL.below hb01), hb01⟩
    case round =>
      obtain ⟨k, hk, rfl, hx, hst, hb⟩ := hrel
      clear hx1 hb1 hb0 hb01
      by_cases hlt : k < L.length
      · obtain ⟨ad, rfl, had, h1, h2⟩ := hst k hlt
        obtain ⟨hp, hn0, hn1⟩ := hWL L[k] (List.getElem_mem hlt)
        have htk : L.take (k + 1) = L.take k ++ [L[k]] := by rw [List.take_add_one, List.getElem?_eq_getElem hlt]; rfl
        have htot := tot_lt (L.take k) (fun q hq => hWL q (List.mem_of_mem_take hq))
        have hlen : (L.take k).length ≤ 12 := by rw [List.length_take]; omega
        have hlti : (k : Int) < 12 := by omega
        have hltl : (k : Int) < (L.length : Int) := by omega
        have HTK := Lib.hid htk
        have hgq := gK_lt L[k].1 L[k].2 hp hn1
        generalize L[k] = q at h1 h2 hp hn0 hn1 HTK hgq
        obtain ⟨p, n⟩ := q
        simp only at h1 h2 hp hn0 hn1 hgq
        obtain ⟨s0, hs0⟩ : ∃ s0, s0 = a + tot (L.take k) := ⟨_, rfl⟩
        have hs30 : s0 < 10 ^ 30 := by omega
        rw [← hs0] at hx
        have HS0 := Lib.hid hs0
        clear htot hlen htk hs0
        have hxa := hx.below (below_alloc (Below.refl _ _) (.cells #[.int .u64 p, .int .i64 n] 53))
        go_wp2_with (first
          | (go_at_call 28; with_reducible refine (C_rgain _ p n hp hn0 hn1).mono ?_; rintro e w2 ⟨x2, rfl, hx2, hb2⟩)
          | (go_at_call 35; with_reducible refine (C_radd (hxa.below hb2) hx2 hs30 hgq (by omega) (by omega)).mono ?_; rintro e w3 ⟨x3, rfl, hx3, hb3⟩))
        go_roundw
        case rel =>
          have hb13 : Below wr.heap.size wr w3 := (below_alloc (Below.refl _ _) _).trans ((hb2.mono (by simp)).trans (hb3.mono (by have := hb2.size; simp at this; omega)))
          refine ⟨k + 1, by omega, by go_num, ?_, hst.below hb13, hb.trans (hb13.mono hb.size)⟩
          rw [HTK.out, tot_snoc, ← Nat.add_assoc, ← HS0.out]
          exact hx3
        case measure => simp [intOf]; omega
      · obtain rfl : k = L.length := by omega
        rw [List.take_length] at hx
        have htot := tot_lt L hWL
        obtain ⟨A5, c5, rfl⟩ := hx.slice
        go_wp2_with (go_at_call 30; with_reducible refine (K_of _ a ha).mono ?_; rintro e w4 ⟨x4, rfl, hx4, hb4⟩)
        have hst4 := hst.below hb4
        have hC := C_sum (c := c) (hx4.mono (l := 30) (by omega)) hst4 hWL hL12
        rw [hLl] at hC
        refine hC.mono ?_
        rintro e w5 ⟨x5, rfl, hx5, hb5⟩
        obtain ⟨A6, c6, rfl⟩ := hx5.1.slice
        go_wp2
        have hb45 := hb4.trans (hb5.mono hb4.size)
        have hbw5 := hb.trans (hb45.mono hb.size)
        have ht5 := hx.below hb45
        have a30 : a + tot L < 10 ^ 30 := by omega
        have hgt0 : ¬ a + tot L < a := by omega
        obtain ⟨W, hW⟩ : ∃ W, W = w5.alloc (.cells #[.slice A6 (N (a + tot L)).length c6] 31) := ⟨_, rfl⟩
        have hWb : Below w5.heap.size w5 W := by subst hW; exact below_alloc (Below.refl _ _) _
        have h0 : W.cell? ⟨w5.heap.size, 0, none⟩ = some (.slice A6 (N (a + tot L)).length c6) ∧ IsK W (.slice A6 (N (a + tot L)).length c6) (a + tot L) 60 ∧ IsT W (.slice A5 (T (a + tot L)).length c5) (a + tot L) ∧ Below w.heap.size w W :=
          ⟨by subst hW; simp, hx5.below hWb, ht5.below hWb, hbw5.trans (hWb.mono hbw5.size)⟩
        rw [← hW]
        have H0 := Aside0.mk h0
        generalize w5.heap.size = b5 at h0 H0
        generalize (Value.slice A6 (N (a + tot L)).length c6) = V at h0 H0 hW hx5
        generalize (Value.slice A5 (T (a + tot L)).length c5) = Tv at h0 H0 ht5 hx
        clear hx5 hbw5 ht5 hb45 hW hWb hx hb4 hb5 hst4 hx4 hst hb
        generalize a + tot L = X at h0 H0 a30 hgt0
        have hd2 : decide (X < a) = false := decide_eq_false hgt0
        obtain ⟨q, z, hd1, hc1, hqz⟩ : ∃ (q : Bool) (z : Int), decide (a < X) = q ∧ (if X < a then (-1 : Int) else if a < X then 1 else 0) = z ∧ (q = true ∧ z = 1 ∨ q = false ∧ z = 0) := by
          by_cases h : a < X
          · exact ⟨_, _, rfl, rfl, .inl ⟨decide_eq_true h, by rw [if_neg hgt0, if_pos h]⟩⟩
          · exact ⟨_, _, rfl, rfl, .inr ⟨decide_eq_false h, by rw [if_neg hgt0, if_neg h]⟩⟩
        have hOf := fun v => K_of v a ha
        clear hgt0 hgt hgt' hlc hc hc2 hk hlt htot hWL hSL hLl hLl' hC hc12
        rcases hqz with ⟨rfl, rfl⟩ | ⟨rfl, rfl⟩
        all_goals
          go_region_held (fun W' => W'.cell? ⟨b5, 0, none⟩ = some V ∧ IsK W' V X 60 ∧ IsT W' Tv X ∧ Below w.heap.size w W')
            (first | exact SS_step ‹_ ∧ IsK _ V X 60 ∧ IsT _ Tv X ∧ Below w.heap.size w _› hw1 | exact SS_step H0.out (below_drew1 (Below.refl _ _)))
            (first
              | (go_at_call 26; have hS_ := ‹_ ∧ IsK _ V X 60 ∧ IsT _ Tv X ∧ Below w.heap.size w _›; with_reducible refine (K_text hS_.2.1 (by omega)).mono ?_; clear hS_; rintro e w1 ⟨rfl, hw1⟩)
              | (go_at_call 27; have hS_ := ‹_ ∧ IsK _ V X 60 ∧ IsT _ Tv X ∧ Below w.heap.size w _›; with_reducible refine (C_rtext hS_.2.2.1 a30 (by omega)).mono ?_; clear hS_; rintro e w1 ⟨rfl, hw1⟩)
              | (go_at_call 30; with_reducible refine (hOf _).mono ?_; rintro e w1 ⟨x1, rfl, hx1, hw1⟩)
              | (go_at_call 29; have hS_ := ‹_ ∧ IsK _ V X 60 ∧ IsT _ Tv X ∧ Below w.heap.size w _›; first
                  | (with_reducible refine (C_heavier hS_.2.1 ‹IsK _ _ a 20› (by omega) (by omega)).mono ?_; rw [hd1]; clear hS_; rintro e w1 ⟨rfl, hw1⟩)
                  | (with_reducible refine (C_heavier ‹IsK _ _ a 20› hS_.2.1 (by omega) (by omega)).mono ?_; rw [hd2]; clear hS_; rintro e w1 ⟨rfl, hw1⟩))
              | (go_at_call 33; have hS_ := ‹_ ∧ IsK _ V X 60 ∧ IsT _ Tv X ∧ Below w.heap.size w _›; with_reducible refine (K_cmp hS_.2.1 ‹IsK _ _ a 20› (by omega) (by omega)).mono ?_; rw [hc1]; clear hS_; rintro e w1 ⟨rfl, hw1⟩))
          have hS := ‹_ ∧ IsK _ V X 60 ∧ IsT _ Tv X ∧ Below w.heap.size w _›
          go_wp2
          go_ret
          exact ⟨rfl, hS.2.2.2⟩
end Go.Proofs.Ytclmdidgioggdaa.Num
