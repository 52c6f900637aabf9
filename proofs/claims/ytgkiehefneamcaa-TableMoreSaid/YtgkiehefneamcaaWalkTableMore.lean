/- TableMore: the walk (its head printed by gen/tabmore.py). -/
import Derived.Test.YtgkiehefneamcaaWalkTableQuorums
import Derived.Test.YtgkiehefneamcaaTabM
namespace Go.Proofs.Ytgkiehefneamcaa.Cod
open Go.RowKit
set_option maxHeartbeats 4000000 in
set_option maxRecDepth 100000 in
theorem W_TableMore {w : World} {A : Option Addr} {c : Nat} {l : List (Int × Int)} (hl : Ents w A l) (hlc : l.length ≤ c) (hcm : c ≤ maxLen)
    {A1 : Option Addr} {c1 : Nat} {a0 : List Int} (ha0 : IntsAt w A1 a0) (h1c : a0.length ≤ c1) (h1m : c1 ≤ maxLen)
    (hnn : A1 = none → a0 = [] ∧ c1 = 0) (m : Int) :
    Calls Try.prog 6 #[.slice A l.length c, .slice A1 a0.length c1, .int .i64 m] w fun e w' => e = .returned (.bool true) ∧ Below w.heap.size w w' := by
  have hRt := fun v hv => C_right A c l v hv hlc hcm
  have hx := rises_right l
  have hne := right_ne l
  generalize right l = x at hRt hx hne
  have hx64 : x.length ≤ 64 := hx.len (n := 64)
  have hOw := fun A c v hv => C_own A c x v hv (by omega)
  have hNw := fun A c v hv => C_new A c x v hv (by unfold maxLen; omega)
  simp only [new_rises hx hne] at hNw
  have hPT := rises_pows hx
  have hmono := fun a b h => quo_mono hx (a := a) (b := b) h
  have hquo0 := quo_nil hx
  have hall := quo_all hx hne
  generalize setAll zeros x = T at hNw hPT hmono hquo0 hall
  obtain ⟨C, hC⟩ : ∃ C, nc T = C := ⟨_, rfl⟩
  have hs := nc_size64 hPT
  have hi := info64 hPT
  have h1 := nc_one T
  obtain ⟨a, ea⟩ : ∃ a, a = a0.take 70 := ⟨_, rfl⟩
  have hal : a.length = min 70 a0.length := by rw [ea, List.length_take]
  have ha : IntsAt w A1 a := fun i hi => by
    subst ea
    have hi0 : i < a0.length := by rw [List.length_take] at hi; omega
    obtain ⟨ad, e, h, h'⟩ := ha0 i hi0
    exact ⟨ad, e, h, by rw [List.getElem_take]; exact h'⟩
  have hna : A1 = none → a = [] ∧ c1 = 0 := fun h => by obtain ⟨e1, e2⟩ := hnn h; exact ⟨by rw [ea, e1]; rfl, e2⟩
  have hQ := fun A c a v hv hl => C_quorum T hPT A c a v hv hl
  have hQ0 : ∀ v, Calls Try.prog 23 #[.agg (nc T), .slice none 0 0] v fun e w' => e = .returned (.bool (quo T [])) ∧ Below v.heap.size v w' := fun v => C_quorum T hPT none 0 [] v (fun i hi => absurd hi (by simp)) (by simp)
  simp only [hquo0] at hQ0
  have hmo := hmono a (a ++ [m]) (fun y hy => List.mem_append_left _ hy)
  simp only [hC] at hNw hs hi h1 hQ hQ0
  clear ha0 ea hquo0 hmono
  have HAL := Lib.hid hal
  have HQ := Lib.hid hQ
  have HMO := Lib.hid hmo
  have HALL := Lib.hid hall
  have HNA := Lib.hid hna
  have ha70 : a.length ≤ 70 := by omega
  clear hal hQ hmo hall hna hnn hPT hC hx hne
  unfold maxLen at h1m
  go_enter Try.func6, Try.ntmps6
  go_upto_if 26 with (first
    | (go_at_call 19; ((with_reducible refine (C_awake6 _).mono ?_); rintro e w1 ⟨rfl, f1⟩))
    | (go_at_call 20; ((with_reducible refine (hRt _ (hl.below f1)).mono ?_); rintro e w2 ⟨X, cX, rfl, eX, f2⟩; have g2 := f1.trans (f2.mono f1.size)))
    | (go_at_call 22; ((with_reducible refine (hOw _ _ _ eX).mono ?_); rintro e w3 ⟨Y, cY, rfl, eY, f3⟩; have g3 := g2.trans (f3.mono g2.size)))
    | (go_at_call 21; ((with_reducible refine (hNw _ _ _ eY).mono ?_); rintro e w4 ⟨rfl, f4⟩; have g4 := g3.trans (f4.mono g3.size)))
    | (refine wpList_store_new (by rfl) 45 (.tmp 8) (.tmp 22) (by rfl) w4.heap.size rfl C _ 45 (by rfl) (by rfl) hi (by rw [hs]; rfl) h1 ?_))
  obtain ⟨wz, hwz⟩ : ∃ wz, wz = w4.alloc (.cells C 45) := ⟨_, rfl⟩
  have hT : T8 w w4.heap.size C wz := by rw [hwz]; exact ⟨heap_alloc_new _ _, g4.alloc g4.size _⟩
  have hX : Ents wz X x := by rw [hwz]; exact eX.below (((f3.mono (Nat.le_refl _)).trans (f4.mono f3.size)).alloc (Nat.le_trans f3.size f4.size) _)
  rw [← hwz]
  generalize w4.heap.size = B at hT ⊢
  clear hwz eX eY g2 g3 g4 f1 f2 f3 f4 hRt hOw hNw hl
  go_cut [1] from 24 to 28 (fun vv wx => vv = .slice A1 a.length c1 ∧ wx = wz)
  case first =>
    by_cases h : 70 < a0.length
    · have hi8 : (a0.length : Int) > 70 := by omega
      have h8c : (70 : Int) ≤ (c1 : Int) := by omega
      have e8 : a.length = 70 := by have := HAL.out; omega
      have E8 := Lib.hid e8
      clear e8 h
      go_wp2_with (fail)
      go_meet
      case rel =>
        rw [E8.out]
        exact ⟨by first | rfl | simp [Addr.add], rfl⟩
    · have hi8 : ¬ (a0.length : Int) > 70 := by omega
      have e8 : a.length = a0.length := by have := HAL.out; omega
      have E8 := Lib.hid e8
      clear e8 h
      go_wp2_with (fail)
      go_meet
      case rel =>
        rw [E8.out]
        exact ⟨rfl, rfl⟩
  case rest =>
  obtain ⟨rfl, rfl⟩ := hcut
  obtain ⟨wz, rfl⟩ : ∃ w' : World, w' = wc := ⟨_, rfl⟩
  have haz := ha.below hT.2
  clear ha h1c HAL hlc hcm
  have ht := hT.2.size
  go_upto_region 8 with (first
    | (at_builtin; refine wpList_append_ints rfl (.tmp 29) (.tmp 30) rfl wz.heap.size _ [] rfl (World.ownsRow_lit wz #[] 0 (Nat.le_refl _) (Nat.zero_le _) rfl) A1 c1 a rfl (haz.below ((Below.refl _ _).alloc (Nat.le_refl _) _)) HNA.out (by simp; omega) (by simp) ?_; intro v5 w5 o5 f5; have g5 := f5 wz.heap.size wz ((Below.refl _ _).alloc (Nat.le_refl _) _) (Nat.le_refl _); clear f5; have e5 : IntsAt (w5.alloc (.cells #[.int .i64 m] 3)) (some ⟨w5.heap.size, 0, none⟩) [m] := ints_block (l := [m]) (heap_alloc_new w5 _))
    | (at_builtin; refine wpList_append_ints rfl (.tmp 31) (.tmp 33) rfl wz.heap.size _ ([] ++ a) rfl (o5.alloc _) (some ⟨w5.heap.size, 0, none⟩) 1 [m] rfl e5 (fun h => by cases h) (by simp; omega) (by have := g5.size; simp; omega) ?_; intro v6 w6 o6 f6; have g6 := f6 wz.heap.size wz (g5.alloc g5.size _) (Nat.le_refl _); clear f6))
  rw [List.nil_append] at o6
  obtain ⟨A6, c6, e6, i6⟩ := ints_of_own o6
  obtain ⟨n6, hn6⟩ : ∃ n6, (a ++ [m]).length = n6 := ⟨_, rfl⟩
  rw [hn6] at e6
  subst e6
  have HN6 := Lib.hid hn6
  clear hn6
  have hT6 := hT.below g6
  have hX6 := hX.below g6
  have ha6 := haz.below g6
  clear o5 o6 e5 g5 hT hX haz
  have ht6 := hT6.2.size
  go_wp2_with (fail)
  go_loopw [11, 37] (fun v i wr => ∃ k : Nat, k ≤ x.length ∧ i = .int .i64 k ∧ wr.ownsRow w6.heap.size 3 1 v ((x.take k).map (·.1)).length (ic ((x.take k).map (·.1))) ∧ Below w6.heap.size w6 wr) (fun _ i _ => x.length - (intOf i).toNat)
  case atStart => exact ⟨0, by omega, rfl, World.ownsRow_nil _ _ _ _, Below.refl _ _⟩
  case round =>
    obtain ⟨k, hk, rfl, hown, hbr⟩ := hrel
    by_cases hlt : k < x.length
    · obtain ⟨ad, rfl, hadl, h1, h2⟩ := (hX6.below hbr) k hlt
      have hlti : (k : Int) < (x.length : Int) := by omega
      have htk : x.take (k + 1) = x.take k ++ [x[k]] := by rw [List.take_add_one, List.getElem?_eq_getElem hlt]; rfl
      generalize x[k] = p at h1 h2 htk
      obtain ⟨p, n⟩ := p
      simp only at h1 h2
      have hmap : (x.take (k + 1)).map (·.1) = (x.take k).map (·.1) ++ [p] := by rw [htk, List.map_append]; rfl
      have HMAP := Lib.hid hmap
      have hlk : ((x.take k).map (·.1)).length = k := by rw [List.length_map, List.length_take]; omega
      have HLK := Lib.hid hlk
      clear htk hmap hlk
      generalize (x.take k).map (·.1) = q at hown HMAP HLK
      have e8 : IntsAt ((wr.alloc (.cells #[.int .i64 p, .int .i64 n] 56)).alloc (.cells #[.int .i64 p] 3)) (some ⟨wr.heap.size + 1, 0, none⟩) [p] := ints_block (l := [p]) (heap_alloc2_new wr _ _)
      have hsz := hbr.size
      go_wp2_with (at_builtin; refine wpList_append_ints rfl (.tmp 41) (.tmp 44) rfl w6.heap.size _ q rfl ((hown.alloc _).alloc _) (some ⟨wr.heap.size + 1, 0, none⟩) 1 [p] rfl e8 (fun h => by cases h) (by have := HLK.out; simp; omega) (by simp; omega) ?_; intro v8 w8 o8 f8; have g8 := f8 w6.heap.size w6 ((hbr.alloc hbr.size _).alloc (by simp; omega) _) (Nat.le_refl _); clear f8)
      go_roundw
      case rel => exact ⟨k + 1, by omega, by go_num, by rw [HMAP.out]; exact o8, g8⟩
      case measure => simp [intOf]; omega
    · obtain rfl : k = x.length := by omega
      rw [List.take_length] at hown
      obtain ⟨A8, c8, rfl, i8⟩ := ints_of_own hown
      have hT8 := hT6.below hbr
      have ha8 := ha6.below hbr
      have i68 := i6.below hbr
      clear hown hT6 ha6 i6 hX6
      have hq1 := HQ.out A1 c1 a
      have hq2 : ∀ v, IntsAt v A6 (a ++ [m]) → (a ++ [m]).length ≤ 4611686018427387904 → Calls Try.prog 23 #[.agg C, .slice A6 n6 c6] v fun e w' => e = .returned (.bool (quo T (a ++ [m]))) ∧ Below v.heap.size v w' := by
        have h := HQ.out A6 c6 (a ++ [m])
        rw [HN6.out] at h
        exact fun v h1 h2 => h v h1 (by rw [← HN6.out]; exact h2)
      have hq3 : ∀ v, IntsAt v A8 (x.map (·.1)) → Calls Try.prog 23 #[.agg C, .slice A8 x.length c8] v fun e w' => e = .returned (.bool (quo T (x.map (·.1)))) ∧ Below v.heap.size v w' := by
        have h := HQ.out A8 c8 (x.map (·.1))
        rw [List.length_map] at h
        exact fun v h1 => h v h1 (by omega)
      have hmo := HMO.out
      rw [HALL.out] at hq3
      obtain ⟨P, hP⟩ : ∃ P, quo T a = P := ⟨_, rfl⟩
      obtain ⟨Q, hQ⟩ : ∃ Q, quo T (a ++ [m]) = Q := ⟨_, rfl⟩
      simp only [hP] at hq1 hmo
      simp only [hQ] at hq2 hmo
      have la : a.length ≤ 4611686018427387904 := by omega
      have la1 : (a ++ [m]).length ≤ 4611686018427387904 := by rw [List.length_append]; simp; omega
      have HQ1 := Lib.hid hq1
      have HQ2 := Lib.hid hq2
      have HQ3 := Lib.hid hq3
      have HQ0 := Lib.hid hQ0
      have HLA1 := Lib.hid la1
      have hrow := hT8.1
      have hrb := hT8.2
      clear hq1 hq2 hq3 hQ0 HQ HMO HALL hP hQ la1
      obtain ⟨r0, hr0⟩ : ∃ r0 : wr.heap[B]? = some (.cells C 45 (0, 0)), True := ⟨hrow, trivial⟩
      clear hrow hT8
      cases P
      · go_wp2_with (first
        | (refine wpList_load_row_g (by rfl) 45 (.tmp 8) (by rfl) B (by rfl) 45 C (0, 0) _ r0 Try.underlying45 rfl hi ?_)
        | (go_at_call 23; ((with_reducible refine (HQ1.out _ ha8 la).mono ?_); rintro e y1 ⟨rfl, f1⟩; have b1 := hrb.trans (f1.mono hrb.size); have r2 := (f1.block _ (Array.getElem?_eq_some_iff.1 r0).1).trans r0; have j2 := i8.below f1; have b2 := b1; clear r0 ha8 i8 f1))
        | (refine wpList_load_row_g (by rfl) 45 (.tmp 8) (by rfl) B (by rfl) 45 C (0, 0) _ r2 Try.underlying45 rfl hi ?_)
        | (go_at_call 23; ((with_reducible refine (HQ0.out _).mono ?_); rintro e y3 ⟨rfl, f3⟩; have b3 := b2.trans (f3.mono b2.size); have r3 := (f3.block _ (Array.getElem?_eq_some_iff.1 r2).1).trans r2; have j3 := j2.below f3; clear r2 j2 f3))
        | (refine wpList_load_row_g (by rfl) 45 (.tmp 8) (by rfl) B (by rfl) 45 C (0, 0) _ r3 Try.underlying45 rfl hi ?_)
        | (go_at_call 23; ((with_reducible refine (HQ3.out _ j3).mono ?_); rintro e y4 ⟨rfl, f4⟩; have b4 := b3.trans (f4.mono b3.size))))
        go_ret
        exact ⟨rfl, b4⟩
      · have hQt : Q = true := hmo (by trivial)
        subst hQt
        go_wp2_with (first
        | (refine wpList_load_row_g (by rfl) 45 (.tmp 8) (by rfl) B (by rfl) 45 C (0, 0) _ r0 Try.underlying45 rfl hi ?_)
        | (go_at_call 23; ((with_reducible refine (HQ1.out _ ha8 la).mono ?_); rintro e y1 ⟨rfl, f1⟩; have b1 := hrb.trans (f1.mono hrb.size); have r1 := (f1.block _ (Array.getElem?_eq_some_iff.1 r0).1).trans r0; have j1 := i8.below f1; have i1 := i68.below f1; clear r0 ha8 i8 i68 f1))
        | (refine wpList_load_row_g (by rfl) 45 (.tmp 8) (by rfl) B (by rfl) 45 C (0, 0) _ r1 Try.underlying45 rfl hi ?_)
        | (go_at_call 23; ((with_reducible refine (HQ2.out _ i1 HLA1.out).mono ?_); rintro e y2 ⟨rfl, f2⟩; have b2 := b1.trans (f2.mono b1.size); have r2 := (f2.block _ (Array.getElem?_eq_some_iff.1 r1).1).trans r1; have j2 := j1.below f2; clear r1 i1 j1 f2))
        | (refine wpList_load_row_g (by rfl) 45 (.tmp 8) (by rfl) B (by rfl) 45 C (0, 0) _ r2 Try.underlying45 rfl hi ?_)
        | (go_at_call 23; ((with_reducible refine (HQ0.out _).mono ?_); rintro e y3 ⟨rfl, f3⟩; have b3 := b2.trans (f3.mono b2.size); have r3 := (f3.block _ (Array.getElem?_eq_some_iff.1 r2).1).trans r2; have j3 := j2.below f3; clear r2 j2 f3))
        | (refine wpList_load_row_g (by rfl) 45 (.tmp 8) (by rfl) B (by rfl) 45 C (0, 0) _ r3 Try.underlying45 rfl hi ?_)
        | (go_at_call 23; ((with_reducible refine (HQ3.out _ j3).mono ?_); rintro e y4 ⟨rfl, f4⟩; have b4 := b3.trans (f4.mono b3.size))))
        go_ret
        exact ⟨rfl, b4⟩
end Go.Proofs.Ytgkiehefneamcaa.Cod
