/- TableQuorums: the walk. -/
import Derived.Test.YtgkiehefneamcaaTabA
import Derived.Test.YtgkiehefneamcaaTabL
import Derived.Deep.CutRange
import Derived.StillTailTactics
namespace Go.Proofs.Ytgkiehefneamcaa.Cod
open Go.RowKit
def T8 (w : World) (B : Nat) (C : Array Value) (wr : World) : Prop := wr.heap[B]? = some (.cells C 45 (0, 0)) ∧ Below w.heap.size w wr
theorem T8.below {w wr w1 : World} {B : Nat} {C : Array Value} (h : T8 w B C wr) (hb : Below wr.heap.size wr w1) : T8 w B C w1 := ⟨(hb.block _ (Array.getElem?_eq_some_iff.1 h.1).1).trans h.1, h.2.trans (hb.mono h.2.size)⟩
set_option maxHeartbeats 4000000 in
set_option maxRecDepth 100000 in
theorem W_TableQuorums {w : World} {A : Option Addr} {c : Nat} {l : List (Int × Int)} (hl : Ents w A l) (hlc : l.length ≤ c) (hcm : c ≤ maxLen)
    {A1 : Option Addr} {c1 : Nat} {a0 : List Int} (ha0 : IntsAt w A1 a0) (h1c : a0.length ≤ c1) (h1m : c1 ≤ maxLen)
    {A2 : Option Addr} {c2 : Nat} {b0 : List Int} (hb0 : IntsAt w A2 b0) (h2c : b0.length ≤ c2) (h2m : c2 ≤ maxLen) :
    Calls Try.prog 5 #[.slice A l.length c, .slice A1 a0.length c1, .slice A2 b0.length c2] w fun e w' => e = .returned (.bool true) ∧ Below w.heap.size w w' := by
  have hRt := fun v hv => C_right A c l v hv hlc hcm
  have hx := rises_right l
  have hne := right_ne l
  generalize right l = x at hRt hx hne
  have hx64 : x.length ≤ 64 := hx.len (n := 64)
  have hOw := fun A c v hv => C_own A c x v hv (by omega)
  have hNw := fun A c v hv => C_new A c x v hv (by unfold maxLen; omega)
  simp only [new_rises hx hne] at hNw
  have hPT := rises_pows hx
  have hcom := fun a b => common hx (a := a) (b := b)
  have hquo := quo_rises hx
  have hfair := hx.fair
  generalize setAll zeros x = T at hNw hPT hcom hquo
  obtain ⟨C, hC⟩ : ∃ C, nc T = C := ⟨_, rfl⟩
  have hs := nc_size64 hPT
  have hi := info64 hPT
  have h1 := nc_one T
  obtain ⟨a, ea⟩ : ∃ a, a = a0.take 70 := ⟨_, rfl⟩
  have hal : a.length = min 70 a0.length := by rw [ea, List.length_take]
  have ha : IntsAt w A1 a := fun i hi => by
    subst ea
    have hi0 : i < a0.length := by rw [List.length_take] at hi; omega
    obtain ⟨ad, e, h, h'⟩ := ha0 i hi0
    exact ⟨ad, e, h, by rw [List.getElem_take]; exact h'⟩
  obtain ⟨b, eb⟩ : ∃ b, b = b0.take 70 := ⟨_, rfl⟩
  have hbl : b.length = min 70 b0.length := by rw [eb, List.length_take]
  have hb : IntsAt w A2 b := fun i hi => by
    subst eb
    have hi0 : i < b0.length := by rw [List.length_take] at hi; omega
    obtain ⟨ad, e, h, h'⟩ := hb0 i hi0
    exact ⟨ad, e, h, by rw [List.getElem_take]; exact h'⟩
  have hQa := fun v hv => C_quorum T hPT A1 c1 a v hv (by omega)
  have hQb := fun v hv => C_quorum T hPT A2 c2 b v hv (by omega)
  have hRa := fun A c v hv hv' => R_quorum A A1 c c1 x a v hv hv' hfair (by omega)
  have hRb := fun A c v hv hv' => R_quorum A A2 c c2 x b v hv hv' hfair (by omega)
  simp only [← hquo] at hRa hRb
  have hPo := fun m v => C_power T hPT.1 m v
  have hcab := hcom a b
  simp only [hC] at hNw hs hi h1 hQa hQb hPo
  clear ha0 hb0 ea eb hcom hquo hfair
  have HAL := Lib.hid hal
  have HBL := Lib.hid hbl
  have HQA := Lib.hid hQa
  have HQB := Lib.hid hQb
  have HRA := Lib.hid hRa
  have HRB := Lib.hid hRb
  have HPO := Lib.hid hPo
  have HCAB := Lib.hid hcab
  have ha70 : a.length ≤ 70 := by omega
  have hb70 : b.length ≤ 70 := by omega
  clear hal hbl hQa hQb hRa hRb hPo hcab hPT hC hx hne
  unfold maxLen at h1m h2m
  go_enter Try.func5, Try.ntmps5
  go_upto_if 28 with (first
    | (go_at_call 19; ((with_reducible refine (C_awake6 _).mono ?_); rintro e w1 ⟨rfl, f1⟩))
    | (go_at_call 20; ((with_reducible refine (hRt _ (hl.below f1)).mono ?_); rintro e w2 ⟨X, cX, rfl, eX, f2⟩; have g2 := f1.trans (f2.mono f1.size)))
    | (go_at_call 22; ((with_reducible refine (hOw _ _ _ eX).mono ?_); rintro e w3 ⟨Y, cY, rfl, eY, f3⟩; have g3 := g2.trans (f3.mono g2.size)))
    | (go_at_call 21; ((with_reducible refine (hNw _ _ _ eY).mono ?_); rintro e w4 ⟨rfl, f4⟩; have g4 := g3.trans (f4.mono g3.size)))
    | (refine wpList_store_new (by rfl) 45 (.tmp 8) (.tmp 24) (by rfl) w4.heap.size rfl C _ 45 (by rfl) (by rfl) hi (by rw [hs]; rfl) h1 ?_))
  obtain ⟨wz, hwz⟩ : ∃ wz, wz = w4.alloc (.cells C 45) := ⟨_, rfl⟩
  have hT : T8 w w4.heap.size C wz := by rw [hwz]; exact ⟨heap_alloc_new _ _, g4.alloc g4.size _⟩
  have hX : Ents wz X x := by rw [hwz]; exact eX.below (((f3.mono (Nat.le_refl _)).trans (f4.mono f3.size)).alloc (Nat.le_trans f3.size f4.size) _)
  rw [← hwz]
  generalize w4.heap.size = B at hT ⊢
  clear hwz eX eY g2 g3 g4 f1 f2 f3 f4 hRt hOw hNw hl
  go_cut [1] from 26 to 30 (fun vv wx => vv = .slice A1 a.length c1 ∧ wx = wz)
  case first =>
    by_cases h : 70 < a0.length
    · have hi8 : (a0.length : Int) > 70 := by omega
      have h8c : (70 : Int) ≤ (c1 : Int) := by omega
      have e8 : a.length = 70 := by have := HAL.out; omega
      have E8 := Lib.hid e8
      clear e8 h
      go_wp2_with (fail)
      go_meet
      case rel =>
        rw [E8.out]
        exact ⟨by first | rfl | simp [Addr.add], rfl⟩
    · have hi8 : ¬ (a0.length : Int) > 70 := by omega
      have e8 : a.length = a0.length := by have := HAL.out; omega
      have E8 := Lib.hid e8
      clear e8 h
      go_wp2_with (fail)
      go_meet
      case rel =>
        rw [E8.out]
        exact ⟨rfl, rfl⟩
  case rest =>
  obtain ⟨rfl, rfl⟩ := hcut
  obtain ⟨wz, rfl⟩ : ∃ w' : World, w' = wc := ⟨_, rfl⟩
  go_upto_if 33 with (fail)
  go_cut [2] from 31 to 35 (fun vv wx => vv = .slice A2 b.length c2 ∧ wx = wz)
  case first =>
    by_cases h : 70 < b0.length
    · have hi8 : (b0.length : Int) > 70 := by omega
      have h8c : (70 : Int) ≤ (c2 : Int) := by omega
      have e8 : b.length = 70 := by have := HBL.out; omega
      have E8 := Lib.hid e8
      clear e8 h
      go_wp2_with (fail)
      go_meet
      case rel =>
        rw [E8.out]
        exact ⟨by first | rfl | simp [Addr.add], rfl⟩
    · have hi8 : ¬ (b0.length : Int) > 70 := by omega
      have e8 : b.length = b0.length := by have := HBL.out; omega
      have E8 := Lib.hid e8
      clear e8 h
      go_wp2_with (fail)
      go_meet
      case rel =>
        rw [E8.out]
        exact ⟨rfl, rfl⟩
  case rest =>
  obtain ⟨rfl, rfl⟩ := hcut
  obtain ⟨wz, rfl⟩ : ∃ w' : World, w' = wc := ⟨_, rfl⟩
  clear HAL HBL h1c h2c hlc hcm
  obtain ⟨P, hP⟩ : ∃ P, quo T a = P := ⟨_, rfl⟩
  obtain ⟨Q, hQ⟩ : ∃ Q, quo T b = Q := ⟨_, rfl⟩
  have hQA := HQA.out
  have hQB := HQB.out
  have hRA := HRA.out
  have hRB := HRB.out
  have hCAB := HCAB.out
  clear HQA HQB HRA HRB HCAB
  simp only [hP] at hQA hRA hCAB
  simp only [hQ] at hQB hRB hCAB
  clear hP hQ
  have HQA := Lib.hid hQA
  have HQB := Lib.hid hQB
  have HRA := Lib.hid hRA
  have HRB := Lib.hid hRB
  have HCAB := Lib.hid hCAB
  clear hQA hQB hRA hRB hCAB
  have haz := ha.below hT.2
  have hbz := hb.below hT.2
  clear ha hb
  go_wp2_with (fail)
  refine region_fix3 [2, 5] (fun k _ _ => if k = 0 then .bool P else .bool Q) (fun _ W W' => Below W.heap.size W W') (by kernel_rfl) (by kernel_rfl) (fun _ W => ⟨W, Below.refl _ _⟩) fun g g0 hG => ?_
  have c0 : Below (g 0).heap.size (g 0) (g 1) := hG 0 (by decide)
  have cc1 : Below (g 1).heap.size (g 1) (g 2) := hG 1 (by decide)
  clear hG
  have b0 : Below wz.heap.size wz (g 0) := by rw [g0]; exact (Below.refl _ _).drew
  have b1 := b0.trans (c0.mono b0.size)
  have b2 := b1.trans (cc1.mono b1.size)
  have G0 := Lib.hid g0
  clear g0
  have s0 := (Array.getElem?_eq_some_iff.1 hT.1).1
  refine fix3_mid (.agg C) 0 0 (by kernel_rfl) rfl (fun J s hs1 hs2 hJ => ?_) ?_
  · obtain rfl : s = 0 := by omega
    exact wp_load_row 45 (.tmp 8) rfl B rfl 45 C (0, 0) _ ((b0.block _ s0).trans hT.1) Try.underlying45 rfl hi (hJ _ rfl)
  intro J hJ
  go_simp
  refine hJ _ ?_
  clear hJ J
  refine fix3_step (.slice A1 a.length c1) (by kernel_rfl) rfl (fun J s _ _ hJ => ?_) ?_
  · go_simp
    exact hJ _ rfl
  intro J hJ
  go_simp
  refine hJ _ ?_
  clear hJ J
  refine fix3_eff 0 (.bool P) rfl (by kernel_rfl) rfl (fun J hJ => ?_) ?_
  · go_simp
    go_at_call 23
    refine (HQA.out _ (haz.below b0)).mono ?_
    rintro e W1 ⟨rfl, g1⟩
    exact hJ _ g1
  intro J hJ
  go_simp
  refine hJ _ ?_
  clear hJ J
  refine fix3_mid (.agg C) 0 1 (by kernel_rfl) rfl (fun J s hs1 hs2 hJ => ?_) ?_
  · have hc : (g s).heap[B]? = some (.cells C 45 (0, 0)) := by
      have : s = 0 ∨ s = 1 := by omega
      rcases this with rfl | rfl
      · exact (b0.block _ s0).trans hT.1
      · exact (b1.block _ s0).trans hT.1
    exact wp_load_row 45 (.tmp 8) rfl B rfl 45 C (0, 0) _ hc Try.underlying45 rfl hi (hJ _ rfl)
  intro J hJ
  go_simp
  refine hJ _ ?_
  clear hJ J
  refine fix3_step (.slice A2 b.length c2) (by kernel_rfl) rfl (fun J s _ _ hJ => ?_) ?_
  · go_simp
    exact hJ _ rfl
  intro J hJ
  go_simp
  refine hJ _ ?_
  clear hJ J
  refine fix3_eff 1 (.bool Q) rfl (by kernel_rfl) rfl (fun J hJ => ?_) ?_
  · go_simp
    go_at_call 23
    refine (HQB.out _ (hbz.below b1)).mono ?_
    rintro e W1 ⟨rfl, g1⟩
    exact hJ _ g1
  intro J hJ
  go_simp
  refine hJ _ ?_
  clear hJ J
  refine fix3_step (.bool P) (by kernel_rfl) rfl (fun J s _ _ hJ => ?_) ?_
  · go_simp
    exact hJ _ rfl
  intro J hJ
  go_simp
  refine hJ _ ?_
  clear hJ J
  refine fix3_step (.bool Q) (by kernel_rfl) rfl (fun J s _ _ hJ => ?_) ?_
  · go_simp
    exact hJ _ rfl
  intro J hJ
  go_simp
  refine hJ _ ?_
  clear hJ J
  refine fix3_nil ?_
  obtain ⟨wy, hwy⟩ : ∃ wy, wy = g [2, 5].length := ⟨_, rfl⟩
  rw [← hwy]
  replace b2 : Below wz.heap.size wz wy := hwy ▸ b2
  clear hwy G0 c0 cc1 b0 b1
  have hTy := hT.below b2
  have hXy := hX.below b2
  have hay := haz.below b2
  have hby := hbz.below b2
  clear hT hX haz hbz b2 s0 HQA HQB
  have hTT := hTy.2
  cases P
  · go_wp2_with (first
      | (go_at_call 24; ((with_reducible refine (HRA.out _ _ _ hXy hay).mono ?_); rintro e w5 ⟨rfl, f5⟩; have hT5 := hTy.below f5; have hX5 := hXy.below f5; have hb5 := hby.below f5; clear hXy))
      | (go_at_call 24; ((with_reducible refine (HRB.out _ _ _ hX5 hb5).mono ?_); rintro e w6 ⟨rfl, f6⟩)))
    go_ret
    exact ⟨rfl, (hT5.below f6).2⟩
  · cases Q
    · go_wp2_with (first
        | (go_at_call 24; ((with_reducible refine (HRA.out _ _ _ hXy hay).mono ?_); rintro e w5 ⟨rfl, f5⟩; have hT5 := hTy.below f5; have hX5 := hXy.below f5; have hb5 := hby.below f5; clear hXy))
        | (go_at_call 24; ((with_reducible refine (HRB.out _ _ _ hX5 hb5).mono ?_); rintro e w6 ⟨rfl, f6⟩)))
      go_ret
      exact ⟨rfl, (hT5.below f6).2⟩
    · go_wp2_with (first
        | (go_at_call 24; ((with_reducible refine (HRA.out _ _ _ hXy hay).mono ?_); rintro e w5 ⟨rfl, f5⟩; have hT5 := hTy.below f5; have hX5 := hXy.below f5; have hb5 := hby.below f5; clear hXy))
        | (go_at_call 24; ((with_reducible refine (HRB.out _ _ _ hX5 hb5).mono ?_); rintro e w6 ⟨rfl, f6⟩)))
      have hT6 := hT5.below f6
      have ha6 := hay.below (f5.trans (f6.mono f5.size))
      have hb6 := hb5.below f6
      have hcab : ∃ m, m ∈ a ∧ m ∈ b ∧ 0 < pw T m := HCAB.out (by trivial) (by trivial)
      have HC := Lib.hid hcab
      clear hT5 hX5 hb5 f5 f6 hay hby hTy HCAB HRA HRB hcab hTT
      go_loopw [62] (fun i wr => ∃ k : Nat, k ≤ a.length ∧ i = .int .i64 k ∧ (∀ m ∈ a.take k, m ∈ b → pw T m ≤ 0) ∧ T8 w B C wr ∧ Below w6.heap.size w6 wr) (fun i _ => a.length - (intOf i).toNat)
      case atStart => exact ⟨0, by omega, rfl, by simp, hT6, Below.refl _ _⟩
      case round =>
        obtain ⟨k, hk, rfl, hno, hTr, hbr⟩ := hrel
        by_cases hlt : k < a.length
        · obtain ⟨ad, rfl, hadl, g1⟩ := (ha6.below hbr) k hlt
          have hlti : (k : Int) < (a.length : Int) := by omega
          have htk : a.take (k + 1) = a.take k ++ [a[k]] := by rw [List.take_add_one, List.getElem?_eq_getElem hlt]; rfl
          generalize a[k] = m at g1 htk
          have hno' : (m ∈ b → pw T m ≤ 0) → ∀ m' ∈ a.take (k + 1), m' ∈ b → pw T m' ≤ 0 := fun hm m' h1 h2 => by
            rw [htk] at h1
            rcases List.mem_append.1 h1 with h3 | h3
            · exact hno m' h3 h2
            · simp only [List.mem_singleton] at h3; subst h3; exact hm h2
          have HNO := Lib.hid hno'
          have hPo := HPO.out m
          clear htk hno hno'
          go_wp2_with (fail)
          go_loopw [68] (fun i v => ∃ j : Nat, j ≤ b.length ∧ i = .int .i64 j ∧ (∀ n ∈ b.take j, n = m → pw T m ≤ 0) ∧ T8 w B C v ∧ Below w6.heap.size w6 v) (fun i _ => b.length - (intOf i).toNat)
          case atStart => exact ⟨0, by omega, rfl, by simp, hTr, hbr⟩
          case round =>
            obtain ⟨j, hj, rfl, hnj, hTv, hbv⟩ := hrel
            by_cases hlt2 : j < b.length
            · obtain ⟨ad2, rfl, hadl2, g2⟩ := (hb6.below hbv) j hlt2
              have hlti2 : (j : Int) < (b.length : Int) := by omega
              have htk : b.take (j + 1) = b.take j ++ [b[j]] := by rw [List.take_add_one, List.getElem?_eq_getElem hlt2]; rfl
              generalize b[j] = n at g2 htk
              have hnj' : (n = m → pw T m ≤ 0) → ∀ n' ∈ b.take (j + 1), n' = m → pw T m ≤ 0 := fun hn n' h1 h2 => by
                rw [htk] at h1
                rcases List.mem_append.1 h1 with h3 | h3
                · exact hnj n' h3 h2
                · simp only [List.mem_singleton] at h3; subst h3; exact hn h2
              have HNJ := Lib.hid hnj'
              clear htk hnj hnj'
              have hrow := hTv.1
              by_cases hmn : m = n
              · have hmb : (m == n) = true := by rw [beq_iff_eq]; exact hmn
                subst hmn
                have hPv := hPo
                obtain ⟨q, hq⟩ : ∃ q, pw T m = q := ⟨_, rfl⟩
                simp only [hq] at hPv
                have HQ := Lib.hid hq
                clear hq
                by_cases hq0 : 0 < q
                · go_wp2_with (first
                    | (refine wpList_load_row_g (by rfl) 45 (.tmp 8) (by rfl) B (by rfl) 45 C (0, 0) _ hrow Try.underlying45 rfl hi ?_)
                    | (go_at_call 25; ((with_reducible refine (hPv _).mono ?_); rintro e w7 ⟨rfl, f7⟩)))
                  go_ret
                  exact ⟨rfl, (hTv.below f7).2⟩
                · go_wp2_with (first
                    | (refine wpList_load_row_g (by rfl) 45 (.tmp 8) (by rfl) B (by rfl) 45 C (0, 0) _ hrow Try.underlying45 rfl hi ?_)
                    | (go_at_call 25; ((with_reducible refine (hPv _).mono ?_); rintro e w7 ⟨rfl, f7⟩)))
                  go_roundw
                  case rel => exact ⟨j + 1, by omega, by go_num, HNJ.out (fun _ => by rw [HQ.out]; omega), hTv.below f7, hbv.trans (f7.mono hbv.size)⟩
                  case measure => simp [intOf]; omega
              · have hmb : (m == n) = false := by rw [beq_eq_false_iff_ne]; exact hmn
                go_wp2_with (fail)
                go_roundw
                case rel => exact ⟨j + 1, by omega, by go_num, HNJ.out (fun h => absurd h.symm hmn), hTv, hbv⟩
                case measure => simp [intOf]; omega
            · obtain rfl : j = b.length := by omega
              rw [List.take_length] at hnj
              have HNJ := Lib.hid hnj
              clear hnj
              go_wp2_with (fail)
              go_roundw
              case rel => exact ⟨k + 1, by omega, by go_num, HNO.out (fun hm => HNJ.out m hm rfl), hTv, hbv⟩
              case measure => simp [intOf]; omega
        · obtain rfl : k = a.length := by omega
          rw [List.take_length] at hno
          obtain ⟨m, h1, h2, h3⟩ := HC.out
          have := hno m h1 h2; omega
end Go.Proofs.Ytgkiehefneamcaa.Cod
