/- CoxswainWeights: the walk, by what its calls mean. (under way) -/
import Derived.Test.YtclmdidgioggdaaPair16
import Derived.Laws.AppendOwn
import Derived.Laws.OwnMore
import Derived.Deep.CutRange
import Derived.StillTailTactics
import Derived.Laws.AppendOwnNone
namespace Go.Proofs.Ytclmdidgioggdaa.Num
open Go.Proofs.Ytclmdidgioggdaa.Cod
open Go.RowKit Go.Proofs.YtclmdidgioggdaaW.PrintWords Go.Proofs.YtclmdidgioggdaaW.PrintLast Go.Proofs.Ytclmdidgioggdaa.Q
attribute [local go_sem ↓] Go.wp_at_zero Go.wp_at_succ
attribute [local irreducible] IsN IsNk IsNF IsT IsX IsB
set_option maxHeartbeats 4000000 in
set_option maxRecDepth 100000 in
theorem W_Weights {w : World} {A : Option Addr} {c : Nat} {l0 : List (Nat × Int)} (hl0 : Steps w A l0) (hw0 : wide l0) (hc : l0.length ≤ c) (hnone : A = none → l0 = [] ∧ c = 0)
    {P : Option Addr} {np cp : Nat} (hP : ∀ i, i < np → ∃ ad z, P = some ad ∧ ad.block < w.heap.size ∧ w.cell? (ad.add i) = some (.int .i64 z) ∧ -9223372036854775808 ≤ z ∧ z ≤ 9223372036854775807) (hnp : np ≤ 9223372036854775807) :
    Calls Try.prog 11 #[.slice A l0.length c, .slice P np cp] w fun e w' => e = .returned (.bool true) ∧ Below w.heap.size w w' := by
  obtain ⟨l, el⟩ : ∃ l, l = l0.take 8 := ⟨_, rfl⟩
  have hl : Steps w A l := el ▸ hl0.take 8
  have hw : wide l := by rw [el]; exact fun p hp => hw0 p (List.mem_of_mem_take hp)
  have hll : l.length = min 8 l0.length := by rw [el, List.length_take]
  have h8 : l.length ≤ 8 := by omega
  have hnl : A = none → l = [] ∧ c = 0 := fun h => by rw [el, (hnone h).1]; exact ⟨rfl, (hnone h).2⟩
  have HLS := Lib.hid hl
  have HNL := Lib.hid hnl
  clear hl0 hw0 el hnl
  go_enter Try.func11, Try.ntmps11
  go_upto_if 15 with (fail)
  go_cut [0] from 13 to 17 (fun v0 wx => v0 = .slice A l.length c ∧ wx = w)
  case first =>
    by_cases h : 8 < l0.length
    · have hi8 : (l0.length : Int) > 8 := by omega
      have h8c : (8 : Int) ≤ (c : Int) := by omega
      have e8 : l.length = 8 := by omega
      have E8 := Lib.hid e8
      obtain ⟨ad0, rfl⟩ : ∃ ad0, A = some ad0 := by
        cases A with
        | none => have := (hnone rfl).1; rw [this] at h; simp at h
        | some a => exact ⟨a, rfl⟩
      have hc0 : ¬ c = 0 := by omega
      clear e8 hll h8 hnone
      go_wp2_with (fail)
      go_meet
      case rel =>
        rw [E8.out]
        exact ⟨by first | rfl | simp [Addr.add], rfl⟩
    · have hi8 : ¬ (l0.length : Int) > 8 := by omega
      have e8 : l.length = l0.length := by omega
      have E8 := Lib.hid e8
      clear e8 hll h8 hnone
      go_wp2_with (fail)
      go_meet
      case rel =>
        rw [E8.out]
        exact ⟨rfl, rfl⟩
  case rest =>
  obtain ⟨rfl, rfl⟩ := hcut
  clear hll hnone hc
  obtain ⟨w, rfl⟩ : ∃ w' : World, w' = wc := ⟨_, rfl⟩
  go_wp2_with (first
    | (go_at_call 30; with_reducible refine (K_five _).mono ?_; rintro e w1 ⟨x1, rfl, hx1, hb1⟩))
  refine (C_sum (hx1.mono (l := 30) (by omega)) (hl.below hb1) hw (by omega)).mono ?_
  rintro e w2 ⟨x2, rfl, hx2, hb2⟩
  have hb12 := hb1.trans (hb2.mono hb1.size)
  have hw2 := hb12.size
  obtain ⟨A2, c2, e2⟩ := hx2.1.slice
  have E2 := Lib.hid e2
  rw [e2]
  go_wp2_with (fail)
  rw [← E2.out]
  obtain ⟨w3, hw3⟩ : ∃ w3, w2.alloc (.cells #[x2] 31) = w3 := ⟨_, rfl⟩
  have b3 : w3.heap[w2.heap.size]? = some (.cells #[x2] 31 (0, 0)) := by subst hw3; exact heap_alloc_new w2 _
  have hb23 : Below w2.heap.size w2 w3 := by subst hw3; exact below_alloc (Below.refl _ _) _
  have l3 : w3.heap.size = w2.heap.size + 1 := by subst hw3; simp
  rw [hw3]
  clear hw3
  have hx3 := hx2.below hb23
  have hl3 := (hl.below hb12).below hb23
  have hb3 := hb12.trans (hb23.mono hb12.size)
  go_at_call 30
  with_reducible refine (K_five _).mono ?_
  rintro e w4 ⟨x4, rfl, hx4, hb4⟩
  have b4 := (hb4.block w2.heap.size (by omega)).trans b3
  have hx4' := hx3.below hb4
  have hl4 := hl3.below hb4
  have hb04 := hb3.trans (hb4.mono hb3.size)
  have X2 := hx4'.1.b
  have X4 := hx4.1.b
  obtain ⟨A4, c4, e4⟩ := hx4.1.slice
  have E4 := Lib.hid e4
  rw [e4]
  clear hb1 hb2 hb12 hx1 hl e2 b3 hb23 hx3 hl3 hb3 hb4 e4
  obtain ⟨i0, hi, hz0, hz1, hz2⟩ := info_parts info53
  have sz5 : (w4.alloc (.cells #[.slice A4 (N 5).length c4] 31)).heap.size = w4.heap.size + 1 := by simp
  have hown := World.ownsRow_lit (base := w4.heap.size + 1) (e := 53) (size := 2) (w4.alloc (.cells #[.slice A4 (N 5).length c4] 31)) #[] 0 (by simp) (by unfold maxLen; omega) (by simp)
  rw [sz5] at hown
  have hb45 : Below w4.heap.size w4 ((w4.alloc (.cells #[.slice A4 (N 5).length c4] 31)).alloc (.cells #[] 53)) := below_alloc (below_alloc (Below.refl _ _) _) _
  have la0 : w2.heap.size < w4.heap.size := (Array.getElem?_eq_some_iff.1 b4).1
  have htl := tot_lt l hw
  go_upto_region 6 with (fail)
  go_cut [8] from 24 to 26 (fun v8 wx => ∃ g cap, w4.heap.size < g ∧ WRel w w2.heap.size w4.heap.size g cap (5 + tot l) l.length x2 v8 (.int .i64 0) wx)
  case first =>
    cases A with
    | none =>
      obtain ⟨rfl, rfl⟩ := HNL.out rfl
      have hb46 : Below w4.heap.size w4 ((w4.alloc (.cells #[.slice A4 (N 5).length c4] 31)).alloc (.cells #[] 53)) := hb45
      have q6 : ((w4.alloc (.cells #[.slice A4 (N 5).length c4] 31)).alloc (.cells #[] 53)).heap[w4.heap.size]? = some (.cells #[x4] 31 (0, 0)) := by
        rw [E4.out, Below.heap_alloc _ _ _ (by simp)]
        exact heap_alloc_new w4 _
      have a6 := (hb46.block w2.heap.size la0).trans b4
      have R6 : WRel w w2.heap.size w4.heap.size (w4.heap.size + 1) 0 (5 + tot []) ([] : List (Nat × Int)).length x2 (.slice (some ⟨w4.heap.size + 1, 0, none⟩) 0 0) (.int .i64 0) ((w4.alloc (.cells #[.slice A4 (N 5).length c4] 31)).alloc (.cells #[] 53)) :=
        ⟨0, [], 5, x4, rfl, rfl, hw, rfl, rfl, a6, (X2.below hb46).x (Nat.lt_succ_self _), q6, (X4.below hb46).x (Nat.lt_succ_self _), hown, hb04.trans (hb46.mono hb04.size)⟩
      have HR6 := Lib.hid R6
      clear R6 a6 q6 b4 X2 X4
      go_wp2_with (at_builtin; refine wpList_append_own_none _ rfl _ _ 50 rfl (w4.heap.size + 1) 53 i0 2 Try.underlying50 hi _ 0 [] rfl hown rfl ?_)
      go_meet
      case rel => exact ⟨_, 0, Nat.lt_succ_self _, HR6.out⟩
    | some ad0 =>
      have hl5 := steps_cells (hl4.below hb45)
      go_wp2_with (at_builtin; refine wpList_append_own _ rfl _ _ 50 rfl (w4.heap.size + 1) 53 i0 (.agg #[.int .u64 0, .int .i64 0]) 2 16 Try.underlying50 hi hz0 hz1 hz2 rfl (by decide) _ 0 [] rfl hown ad0 l.length c (cellsOf l) rfl (cellsOf_len l) hl5 (cellsOf_one l) ?c3 ?c4 ?c5 ?_)
      case c3 => unfold maxLen; omega
      case c4 => omega
      case c5 => simp
      rintro v6 w6 hown6 hg6 hnil
      have hg5 : Below (w4.heap.size + 1) ((w4.alloc (.cells #[.slice A4 (N 5).length c4] 31)).alloc (.cells #[] 53)) w6 :=
        (Below.refl _ _).grown hg6 (by simp) (by intro k hk; simp [Value.ownBlock] at hk; omega)
      have hb46 : Below w4.heap.size w4 w6 := hb45.trans (hg5.mono (by omega))
      have q6 : w6.heap[w4.heap.size]? = some (.cells #[x4] 31 (0, 0)) := by
        rw [hg5.block _ (by omega), E4.out, Below.heap_alloc _ _ _ (by simp)]
        exact heap_alloc_new w4 _
      have a6 := (hb46.block w2.heap.size (by have := (Array.getElem?_eq_some_iff.1 b4).1; omega)).trans b4
      obtain ⟨g, cap, ev6, hgB⟩ : ∃ g cap, v6 = .slice (some ⟨g, 0, none⟩) l.length cap ∧ w4.heap.size < g := by
        rcases hown6.2 with ⟨h, _⟩ | ⟨g, cap, cur, h, hg, _⟩
        · exact absurd h hnil
        · exact ⟨g, cap, h, hg⟩
      have R6 : WRel w w2.heap.size w4.heap.size g cap (5 + tot l) l.length x2 v6 (.int .i64 0) w6 :=
        ⟨0, l, 5, x4, rfl, by omega, hw, by omega, ev6, a6, (X2.below hb46).x hgB, q6, (X4.below hb46).x hgB, hown6, hb04.trans (hb46.mono hb04.size)⟩
      have HR6 := Lib.hid R6
      clear R6 a6 q6 b4 X2 X4
      go_wp2_with (fail)
      go_meet
      case rel => exact ⟨g, cap, hgB, HR6.out⟩
  case rest =>
  obtain ⟨g, cap, hgB, R6⟩ := hcut
  clear b4 X2 X4 E4 E2 hx4' hx4 hx2 hl4 hz0 hz2 hown sz5 hb45 hb04
  generalize w2.heap.size = a0 at *
  generalize w4.heap.size = B at *
  go_wp2
  go_loopw [8, 28] (fun v i wr => WRel w a0 B g cap (5 + tot l) l.length x2 v i wr) (fun _ i _ => 100 - (intOf i).toNat)
  case atStart => exact R6
  case round =>
    obtain ⟨k, R, acc, y, rfl, hRk, hwR, htot, rfl, hA, hX, hB, hY, hown, hb⟩ := hrel
    clear R6
    by_cases hlt : k < l.length
    · have hlI : (k : Int) < (l.length : Int) := by omega
      have hm0 : ¬ (R.length : Int) = 0 := by omega
      go_upto_if 34 with (fail)
      go_cut [10] from 29 to 69 (fun v10 wc => ∃ j : Nat, v10 = .int .i64 j ∧ j < R.length ∧ wc = wr)
      case first =>
        by_cases hp : k < np
        · obtain ⟨adp, z, rfl, hpb, hpz, z0, z1⟩ := hP k hp
          have hpI : (k : Int) < (np : Int) := by omega
          have hpz' := (hb.cell (p := adp.add k) (by rw [add_block]; exact hpb)).trans hpz
          obtain ⟨j, hj, hjR⟩ := pick z R.length (by omega) (by omega)
          go_wp2
          go_meet
          case rel => exact ⟨j, rfl, hjR, rfl⟩
        · have hpI : ¬ (k : Int) < (np : Int) := by omega
          go_wp2
          go_meet
          case rel => exact ⟨0, rfl, by omega, rfl⟩
      case rest =>
        obtain ⟨j, rfl, hjR, rfl⟩ := hcut
        have hjI : (j : Int) < (R.length : Int) := by omega
        have hacc : acc < 10 ^ 50 := by omega
        have hYK : IsK wc y acc 50 := ⟨hY.isN, hacc⟩
        have hcd := hown
        obtain ⟨q1, q2⟩ := cellsOf_get R j hjR
        have c1 := (hown.cellAt (j * 2) (by omega)).trans q1
        have c2' := (hown.cellAt (j * 2 + 1) (by omega)).trans q2
        obtain ⟨hp0, hn0, hn1⟩ := hwR R[j] (List.getElem_mem hjR)
        have htr := tot_remove R j hjR
        have HTR := Lib.hid htr
        generalize R[j] = rj at c1 c2' hp0 hn0 hn1 HTR
        obtain ⟨p, nn⟩ := rj
        simp only at c1 c2' hp0 hn0 hn1
        have dC : ∀ W1, Below wc.drew.heap.size wc.drew W1 → W1.heap[B]? = some (.cells #[y] 31 (0, 0)) ∧ W1.cell? ⟨B, 0, none⟩ = some y ∧ W1.frozen? ⟨B, 0, none⟩ = false := by
          intro W1 h
          have e : W1.heap[B]? = some (.cells #[y] 31 (0, 0)) := (h.block _ (show B < wc.heap.size from (Array.getElem?_eq_some_iff.1 hB).1)).trans hB
          exact ⟨e, by simp [World.cell?, e], by simp [World.frozen?, e]⟩
        have cB : wc.cell? ⟨B, 0, none⟩ = some y := by simp [World.cell?, hB]
        have hYKd : IsK wc.drew y acc 50 := hYK.below (Below.refl _ _).drew
        clear htr q1 q2 hcd
        have HOWN := Lib.hid hown
        go_upto_region 13 with (fail)
        go_cut [8] from 29 to 69 (fun v8 wd => v8 = .slice (some ⟨g, 0, none⟩) R.length cap ∧ ∃ y', wd.heap[B]? = some (.cells #[y'] 31 (0, 0)) ∧ IsX B g wd y' (gK p nn + acc) ∧ wd.heap[a0]? = some (.cells #[x2] 31 (0, 0)) ∧ IsX B g wd x2 (5 + tot l) ∧ wd.ownsRow (B + 1) 53 2 (.slice (some ⟨g, 0, none⟩) R.length cap) R.length (cellsOf R) ∧ Below w.heap.size w wd)
        case first =>
          go_region_with ((first
            | (go_at_call 25; ((with_reducible refine (C_gain _ p nn hp0 hn0 hn1).mono ?_); rintro e w5 ⟨x5, rfl, hx5, hb5⟩; obtain ⟨_, r1, r2⟩ := dC w5 hb5))
            | (go_at_call 23; ((with_reducible refine (K_addF hx5 (hYKd.below hb5) (by omega) (by omega)).mono ?_); rintro e w7 ⟨y7, rfl, hy7, hb7⟩; have hb57 := hb5.trans (hb7.mono hb5.size); obtain ⟨r5, r3, r4⟩ := dC w7 hb57; obtain ⟨A7, c7, rfl⟩ := hy7.isN.slice))))
          all_goals
            obtain ⟨W3, hW3⟩ : ∃ W3, w7.setCell ⟨B, 0, none⟩ (.slice A7 (N (gK p nn + acc)).length c7) = W3 := ⟨_, rfl⟩
            have kW3 : ∀ k, k ≠ B → W3.heap[k]? = w7.heap[k]? := by subst hW3; exact fun k hk => Below.heap_setCell _ _ _ _ hk
            have sW3 : W3.heap.size = w7.heap.size := by subst hW3; simp [World.setCell]
            have bW3 : W3.heap[B]? = some (.cells #[.slice A7 (N (gK p nn + acc)).length c7] 31 (0, 0)) := by subst hW3; simp [World.setCell, Array.getElem?_modify, r5]
            have hd7 : Below wc.heap.size wc w7 := (Below.refl _ _).drew.trans hb57
            have hd5 : Below wc.heap.size wc w5 := (Below.refl _ _).drew.trans hb5
            have FW3 : Below w.heap.size w W3 := by subst hW3; exact (hb.trans (hd7.mono hb.size)).setCell (p := ⟨B, 0, none⟩) (show w.heap.size ≤ B by omega) _
            obtain ⟨f1, f2, f3, f4⟩ := owns_facts HOWN.out
            have oW3 := owns_step (w' := W3) HOWN.out ((kW3 g (by omega)).trans (hd7.block g f1))
            have hBl : B < wc.heap.size := (Array.getElem?_eq_some_iff.1 hB).1
            have x7 : IsX B g W3 (.slice A7 (N (gK p nn + acc)).length c7) (gK p nn + acc) := (hy7.x (B := B) (g := g) (by have := hd5.size; omega) (by have := hd5.size; omega)).step (fun k hk _ => kW3 k hk.1)
            have xA : IsX B g W3 x2 (5 + tot l) := (hX.below hd7).step (fun k hk _ => kW3 k hk.1)
            have hA3 : W3.heap[a0]? = some (.cells #[x2] 31 (0, 0)) := (kW3 a0 (by omega)).trans ((hd7.block a0 (by omega)).trans hA)
            rw [hW3]
            go_wp2_with (fail)
            go_meet
            case rel => exact ⟨rfl, _, bW3, x7, hA3, xA, oW3, FW3⟩
        case rest =>
          clear hA hX hB hY hown HOWN hb hYK hYKd c1 c2' dC cB
          obtain ⟨rfl, y', hB, hY, hA, hX, hown, hb⟩ := hcut
          obtain ⟨f1, f2, f3, f4⟩ := owns_facts hown
          have oW3d := owns_step (w' := wc.drew) hown rfl
          obtain ⟨ad, w9, had, hrun, o9, g9⟩ := del_step hi hz1 oW3d hjR f2
          have hjc : j ≤ cap := by omega
          have hjR1 : j + 1 ≤ R.length := by omega
          have jw : IntKind.i64.wrap ((j : Int) + 1) = (j : Int) + 1 := IntWalk.i64_in _ (by omega)
          obtain ⟨rl, erl⟩ : ∃ rl, R.length = rl := ⟨_, rfl⟩
          obtain ⟨nl, enl⟩ : ∃ nl, j + (R.length - (j + 1)) = nl := ⟨_, rfl⟩
          rw [enl] at hrun o9
          have HS1 := Lib.hid fun W => slice_hi W g rl cap j hjc
          have HS2 := Lib.hid fun W => slice_lo W g rl cap j ad ((j : Int) + 1) (by omega) (by omega) had
          rw [erl] at hrun ⊢
          have HR := Lib.hid hrun
          have O9 := Lib.hid o9
          have G9 := Lib.hid g9
          have HOW := Lib.hid hown
          have HA := Lib.hid hA
          have HX := Lib.hid hX
          have HB := Lib.hid hB
          have HY := Lib.hid hY
          have BB := Lib.hid hb
          have ERL := Lib.hid erl
          have ENL := Lib.hid enl
          clear hrun had o9 g9 hown hA hX hB hY hb oW3d erl enl
          go_wp2_with (fail)
          refine region_fix3 [7] (fun _ _ _ => .slice (some ⟨g, 0, none⟩) nl cap) (fun k _ W' => k = 0 → W' = w9) (by kernel_rfl) (by kernel_rfl) (fun k W => ⟨w9, fun _ => rfl⟩) fun gg g0 hC => ?_
          have e9 : gg 1 = w9 := hC 0 (by decide) rfl
          have E9 := Lib.hid e9
          have G0 := Lib.hid g0
          clear e9 g0 hC
          refine fix3_step (.slice (some ⟨g, 0, none⟩) rl cap) (by kernel_rfl) (by kernel_rfl) (fun J s _ _ hJ => ?_) ?_
          · go_simp
            exact hJ _ rfl
          intro J hJ
          go_simp
          refine hJ _ ?_
          clear hJ J
          refine fix3_step (.int .i64 (j : Int)) (by kernel_rfl) (by kernel_rfl) (fun J s _ _ hJ => ?_) ?_
          · go_simp
            exact hJ _ rfl
          intro J hJ
          go_simp
          refine hJ _ ?_
          clear hJ J
          refine fix3_step (.slice (some ⟨g, 0, none⟩) j cap) (by kernel_rfl) (by kernel_rfl) (fun J s _ _ hJ => wp_run (exec_slice 50 (.tmp 61) none (some (.tmp 62)) rfl _ none (some (.int .i64 (j : Int))) rfl rfl rfl (HS1.out _)) (hJ _ rfl)) ?_
          intro J hJ
          go_simp
          refine hJ _ ?_
          clear hJ J
          refine fix3_step (.slice (some ⟨g, 0, none⟩) rl cap) (by kernel_rfl) (by kernel_rfl) (fun J s _ _ hJ => ?_) ?_
          · go_simp
            exact hJ _ rfl
          intro J hJ
          go_simp
          refine hJ _ ?_
          clear hJ J
          refine fix3_step (.int .i64 (j : Int)) (by kernel_rfl) (by kernel_rfl) (fun J s _ _ hJ => ?_) ?_
          · go_simp
            exact hJ _ rfl
          intro J hJ
          go_simp
          refine hJ _ ?_
          clear hJ J
          refine fix3_step (.int .i64 ((j : Int) + 1)) (by kernel_rfl) (by kernel_rfl) (fun J s _ _ hJ => ?_) ?_
          · go_simp
            exact hJ _ rfl
          intro J hJ
          go_simp
          refine hJ _ ?_
          clear hJ J
          refine fix3_step (.slice (some ad) (rl - (j + 1)) (cap - (j + 1))) (by kernel_rfl) (by kernel_rfl) (fun J s _ _ hJ => wp_run (exec_slice 50 (.tmp 64) (some (.tmp 66)) none rfl _ (some (.int .i64 ((j : Int) + 1))) none rfl rfl rfl (HS2.out _)) (hJ _ rfl)) ?_
          intro J hJ
          go_simp
          refine hJ _ ?_
          clear hJ J
          refine fix3_eff 0 (.slice (some ⟨g, 0, none⟩) nl cap) rfl (by kernel_rfl) (by kernel_rfl) (fun J hJ => ?_) ?_
          · rw [G0.out]
            unfold Oper.wp
            rw [exec_append (.tmp 63) (.tmp 67) 50 rfl _ _ _ rfl rfl HR.out]
            exact hJ w9 (fun _ => rfl)
          intro J hJ
          go_simp
          refine hJ _ ?_
          clear hJ J
          refine fix3_one 1 (by kernel_rfl) (by kernel_rfl) (fun J hJ => ?_)
          go_simp
          refine hJ _ ?_
          clear hJ J
          refine fix3_nil ?_
          rw [show gg [7].length = w9 from E9.out]
          go_wp2_with (fail)
          have hlen : (R.take j ++ R.drop (j + 1)).length = nl := by rw [List.length_append, List.length_take, List.length_drop, ← ENL.out]; omega
          have hot : ∀ q, q ≠ g → q < wc.heap.size → w9.heap[q]? = wc.heap[q]? := fun q hq hlt => G9.out.block q hlt (by simpa using hq)
          have hBl : B < wc.heap.size := (Array.getElem?_eq_some_iff.1 HB.out).1
          refine ⟨⟨k + 1, R.take j ++ R.drop (j + 1), gK p nn + acc, y', by go_num, by rw [hlen, ← ENL.out]; omega, ?_, ?_, by rw [hlen], (hot a0 (by omega) (by omega)).trans HA.out, HX.out.step (fun q hq hlt => hot q hq.2 hlt), (hot B (by omega) hBl).trans HB.out, HY.out.step (fun q hq hlt => hot q hq.2 hlt), ?_, ?_⟩, by simp [intOf]; omega⟩
          · intro q hq
            rw [List.mem_append] at hq
            exact hwR q (hq.elim List.mem_of_mem_take List.mem_of_mem_drop)
          · have := HTR.out
            omega
          · rw [hlen, cellsOf_append]
            exact O9.out
          · refine BB.out.drew.grown G9.out (Nat.le_of_lt (by show w.heap.size < wc.heap.size; have := BB.out.size; omega)) (fun q hq => ?_)
            simp at hq
            omega
    · obtain rfl : R = [] := List.eq_nil_of_length_eq_zero (by omega)
      have hacc : acc = 5 + tot l := by simp only [tot] at htot; omega
      subst hacc
      have hkl : ¬ (k : Int) < (l.length : Int) := by omega
      have h60 : 5 + tot l < 10 ^ 60 := by omega
      have nx : IsK wr x2 (5 + tot l) 60 := ⟨hX.isN, h60⟩
      have nb : IsK wr y (5 + tot l) 60 := ⟨hY.isN, h60⟩
      have ca : wr.cell? ⟨a0, 0, none⟩ = some x2 := cell_of_row _ _ _ _ _ _ hA
      have cb : wr.cell? ⟨B, 0, none⟩ = some y := cell_of_row _ _ _ _ _ _ hB
      have la : a0 < wr.heap.size := (Array.getElem?_eq_some_iff.1 hA).1
      have lb : B < wr.heap.size := (Array.getElem?_eq_some_iff.1 hB).1
      have HSUM := Lib.hid fun (W : World) (h : Steps W A l) => K_sum0 (c := c) h hw (by omega)
      have hst := HLS.out.below hb
      obtain ⟨n, en⟩ : ∃ n, tot l = n := ⟨_, rfl⟩
      simp only [en] at HSUM nx nb h60
      obtain ⟨ll, ell⟩ : ∃ ll, l.length = ll := ⟨_, rfl⟩
      simp only [ell] at HSUM
      have ELL := Lib.hid ell
      have hbz := hb
      clear hA hX hB hY hown hb htot en htl hRk hwR
      obtain ⟨wz, rfl⟩ : ∃ wz : World, wz = wr := ⟨_, rfl⟩
      rw [ell] at hkl ⊢
      clear ell
      go_upto_region 16 with (fail)
      go_cut [11, 12] from 70 to 75 (fun p q wx => ∃ px ux, p = .pointer (some ⟨px, 0, none⟩) ∧ q = .bool true ∧ px < wx.heap.size ∧ wx.cell? ⟨px, 0, none⟩ = some ux ∧ IsK wx ux n 60 ∧ Below wz.heap.size wz wx)
      case first =>
        refine region_fix5 [[1, 2, 6, 7], [1, 6, 2, 7], [6, 1, 2, 7]] [1, 2, 6, 7] rfl (S16 n) (by kernel_rfl) (by kernel_rfl) (s16_cong n) (s16_tot n) fun E hE g g0 hC => ?_
        rcases List.mem_cons.1 hE with rfl | hE
        · clear hE
          have e1 := (hC 0 (by decide)).1
          have e2 := (hC 1 (by decide)).1
          have w8 : (g 3).1 = (g 2).1.alloc (.cells #[.slice none 0 0] 31) := (hC 2 (by decide)).1
          have q8 : (g 3).2 = .pointer (some ⟨(g 2).1.heap.size, 0, none⟩) := (hC 2 (by decide)).2
          have bl0 : Below wz.heap.size wz (g 0).1 := by rw [g0]; exact (Below.refl _ _).drew
          have bl1 : Below wz.heap.size wz (g 1).1 := bl0.trans (Below.mono e1 bl0.size)
          have bl2 : Below wz.heap.size wz (g 2).1 := bl1.trans (Below.mono e2 bl1.size)
          have bl3 : Below wz.heap.size wz (g 3).1 := by rw [w8]; exact bl2.alloc bl2.size _
          have st0 : Below (g 0).1.heap.size (g 0).1 (g 1).1 := e1
          have st1 : Below (g 1).1.heap.size (g 1).1 (g 2).1 := e2
          have st2 : Below (g 2).1.heap.size (g 2).1 (g 3).1 := by rw [w8]; exact (Below.refl _ _).alloc (Nat.le_refl _) _
          obtain ⟨x5, q2, K2⟩ : ∃ x, (g 1).2 = .agg #[x] ∧ IsK (g 1).1 x 5 20 := (hC 0 (by decide)).2 (by
            obtain ⟨_, W2, x, _, hx, hb⟩ := calls_some (K_five (g 0).1)
            exact ⟨W2, x, hb, hx⟩)
          have hs := K_sub (nx.below bl1) K2 (by omega) (by omega) (Nat.le_add_right _ _)
          rw [Nat.add_sub_cancel_left] at hs
          obtain ⟨x4, q4, K4⟩ : ∃ x, (g 2).2 = .tuple #[.agg #[x], .bool true] ∧ IsK (g 2).1 x n 60 := (hC 1 (by decide)).2 (by
            obtain ⟨_, W2, x, _, hx, hb⟩ := calls_some hs
            exact ⟨W2, x, hb, hx⟩)
          obtain ⟨A4, c4, hx4⟩ := K4.1.slice
          subst hx4
          have K43 := (K4.below st2)
          obtain ⟨p, ep⟩ : ∃ p, (g 2).1.heap.size = p := ⟨_, rfl⟩
          have r0 : (g 3).1.heap[p]? = some (.cells #[.slice none 0 0] 31 (0, 0)) := by rw [w8, ← ep]; exact heap_alloc_new _ _
          have lp0 : p < (g 3).1.heap.size := (Array.getElem?_eq_some_iff.1 r0).1
          have r3 : (g 3).1.heap[p]? = some (.cells #[.slice none 0 0] 31 (0, 0)) := r0
          have bp : wz.heap.size ≤ p := by rw [← ep]; exact bl2.size
          rw [ep] at q8
          have hh : hist 3 g = [(g 1).2, (g 2).2, (g 3).2] := rfl
          have hp : (hist 3 g).findSome? ptrOf = some p := by rw [hh, q2, q4, q8]; rfl
          have hx : (hist 3 g).findSome? tupOf = some (.slice A4 (N n).length c4) := by rw [hh, q2, q4, q8]; rfl
          have w9 : (g 4).1 = (g 3).1.setCell ⟨p, 0, none⟩ (.slice A4 (N n).length c4) := (hC 3 (by decide)) p _ hp hx
          have c3 : (g 3).1.cell? ⟨p, 0, none⟩ = some (.slice none 0 0) := cell_of_row _ _ _ _ _ _ r3
          have f3 : (g 3).1.frozen? ⟨p, 0, none⟩ = false := frozen_of_row _ _ _ _ _ r3
          have b4 : Below wz.heap.size wz (g 4).1 := by rw [w9]; exact bl3.setCell (by simpa using bp) _
          have c4' : (g 4).1.cell? ⟨p, 0, none⟩ = some (.slice A4 (N n).length c4) := by rw [w9]; exact (cell_of_row _ _ _ _ _ _ (heap_setCell_same _ _ _ _ _ _ r3)).trans (by simp)
          have l4 : p < (g 4).1.heap.size := by rw [w9]; have := (Array.getElem?_eq_some_iff.1 r3).1; simpa using this
          have k4 : IsK (g 4).1 (.slice A4 (N n).length c4) n 60 := by rw [w9]; exact ⟨K43.1.set r3, K43.2⟩
          have hca : ∀ j : Nat, j ≤ 3 → (g j).1.cell? ⟨a0, 0, none⟩ = some x2 := fun j hj => by
            rcases (by omega : j = 0 ∨ j = 1 ∨ j = 2 ∨ j = 3) with rfl | rfl | rfl | rfl
            · exact (bl0.cell (p := ⟨a0, 0, none⟩) la).trans ca
            · exact (bl1.cell (p := ⟨a0, 0, none⟩) la).trans ca
            · exact (bl2.cell (p := ⟨a0, 0, none⟩) la).trans ca
            · exact (bl3.cell (p := ⟨a0, 0, none⟩) la).trans ca
          have HCA := Lib.hid hca
          have Q2 := Lib.hid q2
          have Q4 := Lib.hid q4
          have Q8 := Lib.hid q8
          have HP := Lib.hid hp
          have HX := Lib.hid hx
          have W8 := Lib.hid w8
          have W9 := Lib.hid w9
          have EP := Lib.hid ep
          have HS := Lib.hid hs
          have C3 := Lib.hid c3
          have F3 := Lib.hid f3
          have C4 := Lib.hid c4'
          have G0 := Lib.hid g0
          clear hca q2 q4 q8 hp hx w8 w9 ep hs c3 f3 c4' g0 hh r0 r3 hC ca cb
          refine fix5_mid (.agg #[x2]) 0 3 (by kernel_rfl) (by kernel_rfl) (fun J s _ hs hJ => ?_) ?_
          · have hc := HCA.out s hs
            go_simp
            exact hJ _ rfl
          intro J hJ
          go_simp
          refine hJ _ ?_
          clear hJ J
          refine fix5_eff 0 (.agg #[x5]) Q2.out (by kernel_rfl) (by kernel_rfl) (fun J hJ => ?_) ?_
          · go_simp
            go_at_call 30
            with_reducible refine (K_five _).mono ?_
            rintro e W1 ⟨x, rfl, hx, hb⟩
            exact hJ _ _ ⟨hb, fun _ => ⟨x, rfl, hx⟩⟩
          intro J hJ
          go_simp
          refine hJ _ ?_
          clear hJ J
          refine fix5_eff 1 (.tuple #[.agg #[.slice A4 (N n).length c4], .bool true]) Q4.out (by kernel_rfl) (by kernel_rfl) (fun J hJ => ?_) ?_
          · go_simp
            go_at_call 42
            with_reducible refine (HS.out).mono ?_
            rintro e W1 ⟨x, rfl, hx, hb⟩
            exact hJ _ _ ⟨hb, fun _ => ⟨x, rfl, hx⟩⟩
          intro J hJ
          go_simp
          refine hJ _ ?_
          clear hJ J
          refine fix5_step (.tuple #[.agg #[.slice A4 (N n).length c4], .bool true]) (by kernel_rfl) (by kernel_rfl) (fun J s _ _ hJ => ?_) ?_
          · go_simp
            exact hJ _ rfl
          intro J hJ
          go_simp
          refine hJ _ ?_
          clear hJ J
          refine fix5_step (.agg #[.slice A4 (N n).length c4]) (by kernel_rfl) (by kernel_rfl) (fun J s _ _ hJ => ?_) ?_
          · go_simp
            exact hJ _ rfl
          intro J hJ
          go_simp
          refine hJ _ ?_
          clear hJ J
          refine fix5_step (.bool true) (by kernel_rfl) (by kernel_rfl) (fun J s _ _ hJ => ?_) ?_
          · go_simp
            exact hJ _ rfl
          intro J hJ
          go_simp
          refine hJ _ ?_
          clear hJ J
          refine fix5_eff 2 (.pointer (some ⟨p, 0, none⟩)) Q8.out (by kernel_rfl) (by kernel_rfl) (fun J hJ => ?_) ?_
          · go_simp
            exact hJ _ _ ⟨rfl, rfl⟩
          intro J hJ
          go_simp
          refine hJ _ ?_
          clear hJ J
          refine fix5_eff 3 _ rfl (by kernel_rfl) (by kernel_rfl) (fun J hJ => ?_) ?_
          · have c3 := C3.out
            have f3 := F3.out
            go_simp
            refine hJ _ undef (fun p' x' h1 h2 => ?_)
            rw [HP.out] at h1
            rw [HX.out] at h2
            cases h1
            cases h2
            rfl
          intro J hJ
          go_simp
          refine hJ _ ?_
          clear hJ J
          refine fix5_step (.bool true) (by kernel_rfl) (by kernel_rfl) (fun J s _ _ hJ => ?_) ?_
          · go_simp
            exact hJ _ rfl
          intro J hJ
          go_simp
          refine hJ _ ?_
          clear hJ J
          refine fix5_nil ?_
          go_wp2_with (fail)
          go_meet
          case rel => exact ⟨p, _, rfl, rfl, l4, C4.out, k4, b4⟩
        rcases List.mem_cons.1 hE with rfl | hE
        · clear hE
          have e1 := (hC 0 (by decide)).1
          have w8 : (g 2).1 = (g 1).1.alloc (.cells #[.slice none 0 0] 31) := (hC 1 (by decide)).1
          have q8 : (g 2).2 = .pointer (some ⟨(g 1).1.heap.size, 0, none⟩) := (hC 1 (by decide)).2
          have e2 := (hC 2 (by decide)).1
          have bl0 : Below wz.heap.size wz (g 0).1 := by rw [g0]; exact (Below.refl _ _).drew
          have bl1 : Below wz.heap.size wz (g 1).1 := bl0.trans (Below.mono e1 bl0.size)
          have bl2 : Below wz.heap.size wz (g 2).1 := by rw [w8]; exact bl1.alloc bl1.size _
          have bl3 : Below wz.heap.size wz (g 3).1 := bl2.trans (Below.mono e2 bl2.size)
          have st0 : Below (g 0).1.heap.size (g 0).1 (g 1).1 := e1
          have st1 : Below (g 1).1.heap.size (g 1).1 (g 2).1 := by rw [w8]; exact (Below.refl _ _).alloc (Nat.le_refl _) _
          have st2 : Below (g 2).1.heap.size (g 2).1 (g 3).1 := e2
          obtain ⟨x5, q2, K2⟩ : ∃ x, (g 1).2 = .agg #[x] ∧ IsK (g 1).1 x 5 20 := (hC 0 (by decide)).2 (by
            obtain ⟨_, W2, x, _, hx, hb⟩ := calls_some (K_five (g 0).1)
            exact ⟨W2, x, hb, hx⟩)
          have hs := K_sub (nx.below bl2) (K2.below st1) (by omega) (by omega) (Nat.le_add_right _ _)
          rw [Nat.add_sub_cancel_left] at hs
          obtain ⟨x4, q4, K4⟩ : ∃ x, (g 3).2 = .tuple #[.agg #[x], .bool true] ∧ IsK (g 3).1 x n 60 := (hC 2 (by decide)).2 (by
            obtain ⟨_, W2, x, _, hx, hb⟩ := calls_some hs
            exact ⟨W2, x, hb, hx⟩)
          obtain ⟨A4, c4, hx4⟩ := K4.1.slice
          subst hx4
          have K43 := K4
          obtain ⟨p, ep⟩ : ∃ p, (g 1).1.heap.size = p := ⟨_, rfl⟩
          have r0 : (g 2).1.heap[p]? = some (.cells #[.slice none 0 0] 31 (0, 0)) := by rw [w8, ← ep]; exact heap_alloc_new _ _
          have lp0 : p < (g 2).1.heap.size := (Array.getElem?_eq_some_iff.1 r0).1
          have r3 : (g 3).1.heap[p]? = some (.cells #[.slice none 0 0] 31 (0, 0)) := ((st2.block _ lp0).trans r0)
          have bp : wz.heap.size ≤ p := by rw [← ep]; exact bl1.size
          rw [ep] at q8
          have hh : hist 3 g = [(g 1).2, (g 2).2, (g 3).2] := rfl
          have hp : (hist 3 g).findSome? ptrOf = some p := by rw [hh, q2, q8, q4]; rfl
          have hx : (hist 3 g).findSome? tupOf = some (.slice A4 (N n).length c4) := by rw [hh, q2, q8, q4]; rfl
          have w9 : (g 4).1 = (g 3).1.setCell ⟨p, 0, none⟩ (.slice A4 (N n).length c4) := (hC 3 (by decide)) p _ hp hx
          have c3 : (g 3).1.cell? ⟨p, 0, none⟩ = some (.slice none 0 0) := cell_of_row _ _ _ _ _ _ r3
          have f3 : (g 3).1.frozen? ⟨p, 0, none⟩ = false := frozen_of_row _ _ _ _ _ r3
          have b4 : Below wz.heap.size wz (g 4).1 := by rw [w9]; exact bl3.setCell (by simpa using bp) _
          have c4' : (g 4).1.cell? ⟨p, 0, none⟩ = some (.slice A4 (N n).length c4) := by rw [w9]; exact (cell_of_row _ _ _ _ _ _ (heap_setCell_same _ _ _ _ _ _ r3)).trans (by simp)
          have l4 : p < (g 4).1.heap.size := by rw [w9]; have := (Array.getElem?_eq_some_iff.1 r3).1; simpa using this
          have k4 : IsK (g 4).1 (.slice A4 (N n).length c4) n 60 := by rw [w9]; exact ⟨K43.1.set r3, K43.2⟩
          have hca : ∀ j : Nat, j ≤ 3 → (g j).1.cell? ⟨a0, 0, none⟩ = some x2 := fun j hj => by
            rcases (by omega : j = 0 ∨ j = 1 ∨ j = 2 ∨ j = 3) with rfl | rfl | rfl | rfl
            · exact (bl0.cell (p := ⟨a0, 0, none⟩) la).trans ca
            · exact (bl1.cell (p := ⟨a0, 0, none⟩) la).trans ca
            · exact (bl2.cell (p := ⟨a0, 0, none⟩) la).trans ca
            · exact (bl3.cell (p := ⟨a0, 0, none⟩) la).trans ca
          have HCA := Lib.hid hca
          have Q2 := Lib.hid q2
          have Q4 := Lib.hid q4
          have Q8 := Lib.hid q8
          have HP := Lib.hid hp
          have HX := Lib.hid hx
          have W8 := Lib.hid w8
          have W9 := Lib.hid w9
          have EP := Lib.hid ep
          have HS := Lib.hid hs
          have C3 := Lib.hid c3
          have F3 := Lib.hid f3
          have C4 := Lib.hid c4'
          have G0 := Lib.hid g0
          clear hca q2 q4 q8 hp hx w8 w9 ep hs c3 f3 c4' g0 hh r0 r3 hC ca cb
          refine fix5_mid (.agg #[x2]) 0 3 (by kernel_rfl) (by kernel_rfl) (fun J s _ hs hJ => ?_) ?_
          · have hc := HCA.out s hs
            go_simp
            exact hJ _ rfl
          intro J hJ
          go_simp
          refine hJ _ ?_
          clear hJ J
          refine fix5_eff 0 (.agg #[x5]) Q2.out (by kernel_rfl) (by kernel_rfl) (fun J hJ => ?_) ?_
          · go_simp
            go_at_call 30
            with_reducible refine (K_five _).mono ?_
            rintro e W1 ⟨x, rfl, hx, hb⟩
            exact hJ _ _ ⟨hb, fun _ => ⟨x, rfl, hx⟩⟩
          intro J hJ
          go_simp
          refine hJ _ ?_
          clear hJ J
          refine fix5_eff 2 (.tuple #[.agg #[.slice A4 (N n).length c4], .bool true]) Q4.out (by kernel_rfl) (by kernel_rfl) (fun J hJ => ?_) ?_
          · go_simp
            go_at_call 42
            with_reducible refine (HS.out).mono ?_
            rintro e W1 ⟨x, rfl, hx, hb⟩
            exact hJ _ _ ⟨hb, fun _ => ⟨x, rfl, hx⟩⟩
          intro J hJ
          go_simp
          refine hJ _ ?_
          clear hJ J
          refine fix5_step (.tuple #[.agg #[.slice A4 (N n).length c4], .bool true]) (by kernel_rfl) (by kernel_rfl) (fun J s _ _ hJ => ?_) ?_
          · go_simp
            exact hJ _ rfl
          intro J hJ
          go_simp
          refine hJ _ ?_
          clear hJ J
          refine fix5_step (.agg #[.slice A4 (N n).length c4]) (by kernel_rfl) (by kernel_rfl) (fun J s _ _ hJ => ?_) ?_
          · go_simp
            exact hJ _ rfl
          intro J hJ
          go_simp
          refine hJ _ ?_
          clear hJ J
          refine fix5_step (.bool true) (by kernel_rfl) (by kernel_rfl) (fun J s _ _ hJ => ?_) ?_
          · go_simp
            exact hJ _ rfl
          intro J hJ
          go_simp
          refine hJ _ ?_
          clear hJ J
          refine fix5_eff 1 (.pointer (some ⟨p, 0, none⟩)) Q8.out (by kernel_rfl) (by kernel_rfl) (fun J hJ => ?_) ?_
          · go_simp
            exact hJ _ _ ⟨rfl, rfl⟩
          intro J hJ
          go_simp
          refine hJ _ ?_
          clear hJ J
          refine fix5_eff 3 _ rfl (by kernel_rfl) (by kernel_rfl) (fun J hJ => ?_) ?_
          · have c3 := C3.out
            have f3 := F3.out
            go_simp
            refine hJ _ undef (fun p' x' h1 h2 => ?_)
            rw [HP.out] at h1
            rw [HX.out] at h2
            cases h1
            cases h2
            rfl
          intro J hJ
          go_simp
          refine hJ _ ?_
          clear hJ J
          refine fix5_step (.bool true) (by kernel_rfl) (by kernel_rfl) (fun J s _ _ hJ => ?_) ?_
          · go_simp
            exact hJ _ rfl
          intro J hJ
          go_simp
          refine hJ _ ?_
          clear hJ J
          refine fix5_nil ?_
          go_wp2_with (fail)
          go_meet
          case rel => exact ⟨p, _, rfl, rfl, l4, C4.out, k4, b4⟩
        obtain rfl := List.mem_singleton.1 hE
        clear hE
        have w8 : (g 1).1 = (g 0).1.alloc (.cells #[.slice none 0 0] 31) := (hC 0 (by decide)).1
        have q8 : (g 1).2 = .pointer (some ⟨(g 0).1.heap.size, 0, none⟩) := (hC 0 (by decide)).2
        have e1 := (hC 1 (by decide)).1
        have e2 := (hC 2 (by decide)).1
        have bl0 : Below wz.heap.size wz (g 0).1 := by rw [g0]; exact (Below.refl _ _).drew
        have bl1 : Below wz.heap.size wz (g 1).1 := by rw [w8]; exact bl0.alloc bl0.size _
        have bl2 : Below wz.heap.size wz (g 2).1 := bl1.trans (Below.mono e1 bl1.size)
        have bl3 : Below wz.heap.size wz (g 3).1 := bl2.trans (Below.mono e2 bl2.size)
        have st0 : Below (g 0).1.heap.size (g 0).1 (g 1).1 := by rw [w8]; exact (Below.refl _ _).alloc (Nat.le_refl _) _
        have st1 : Below (g 1).1.heap.size (g 1).1 (g 2).1 := e1
        have st2 : Below (g 2).1.heap.size (g 2).1 (g 3).1 := e2
        obtain ⟨x5, q2, K2⟩ : ∃ x, (g 2).2 = .agg #[x] ∧ IsK (g 2).1 x 5 20 := (hC 1 (by decide)).2 (by
          obtain ⟨_, W2, x, _, hx, hb⟩ := calls_some (K_five (g 1).1)
          exact ⟨W2, x, hb, hx⟩)
        have hs := K_sub (nx.below bl2) K2 (by omega) (by omega) (Nat.le_add_right _ _)
        rw [Nat.add_sub_cancel_left] at hs
        obtain ⟨x4, q4, K4⟩ : ∃ x, (g 3).2 = .tuple #[.agg #[x], .bool true] ∧ IsK (g 3).1 x n 60 := (hC 2 (by decide)).2 (by
          obtain ⟨_, W2, x, _, hx, hb⟩ := calls_some hs
          exact ⟨W2, x, hb, hx⟩)
        obtain ⟨A4, c4, hx4⟩ := K4.1.slice
        subst hx4
        have K43 := K4
        obtain ⟨p, ep⟩ : ∃ p, (g 0).1.heap.size = p := ⟨_, rfl⟩
        have r0 : (g 1).1.heap[p]? = some (.cells #[.slice none 0 0] 31 (0, 0)) := by rw [w8, ← ep]; exact heap_alloc_new _ _
        have lp0 : p < (g 1).1.heap.size := (Array.getElem?_eq_some_iff.1 r0).1
        have r3 : (g 3).1.heap[p]? = some (.cells #[.slice none 0 0] 31 (0, 0)) := ((st2.block _ (Nat.lt_of_lt_of_le lp0 st1.size)).trans ((st1.block _ lp0).trans r0))
        have bp : wz.heap.size ≤ p := by rw [← ep]; exact bl0.size
        rw [ep] at q8
        have hh : hist 3 g = [(g 1).2, (g 2).2, (g 3).2] := rfl
        have hp : (hist 3 g).findSome? ptrOf = some p := by rw [hh, q8, q2, q4]; rfl
        have hx : (hist 3 g).findSome? tupOf = some (.slice A4 (N n).length c4) := by rw [hh, q8, q2, q4]; rfl
        have w9 : (g 4).1 = (g 3).1.setCell ⟨p, 0, none⟩ (.slice A4 (N n).length c4) := (hC 3 (by decide)) p _ hp hx
        have c3 : (g 3).1.cell? ⟨p, 0, none⟩ = some (.slice none 0 0) := cell_of_row _ _ _ _ _ _ r3
        have f3 : (g 3).1.frozen? ⟨p, 0, none⟩ = false := frozen_of_row _ _ _ _ _ r3
        have b4 : Below wz.heap.size wz (g 4).1 := by rw [w9]; exact bl3.setCell (by simpa using bp) _
        have c4' : (g 4).1.cell? ⟨p, 0, none⟩ = some (.slice A4 (N n).length c4) := by rw [w9]; exact (cell_of_row _ _ _ _ _ _ (heap_setCell_same _ _ _ _ _ _ r3)).trans (by simp)
        have l4 : p < (g 4).1.heap.size := by rw [w9]; have := (Array.getElem?_eq_some_iff.1 r3).1; simpa using this
        have k4 : IsK (g 4).1 (.slice A4 (N n).length c4) n 60 := by rw [w9]; exact ⟨K43.1.set r3, K43.2⟩
        have hca : ∀ j : Nat, j ≤ 3 → (g j).1.cell? ⟨a0, 0, none⟩ = some x2 := fun j hj => by
          rcases (by omega : j = 0 ∨ j = 1 ∨ j = 2 ∨ j = 3) with rfl | rfl | rfl | rfl
          · exact (bl0.cell (p := ⟨a0, 0, none⟩) la).trans ca
          · exact (bl1.cell (p := ⟨a0, 0, none⟩) la).trans ca
          · exact (bl2.cell (p := ⟨a0, 0, none⟩) la).trans ca
          · exact (bl3.cell (p := ⟨a0, 0, none⟩) la).trans ca
        have HCA := Lib.hid hca
        have Q2 := Lib.hid q2
        have Q4 := Lib.hid q4
        have Q8 := Lib.hid q8
        have HP := Lib.hid hp
        have HX := Lib.hid hx
        have W8 := Lib.hid w8
        have W9 := Lib.hid w9
        have EP := Lib.hid ep
        have HS := Lib.hid hs
        have C3 := Lib.hid c3
        have F3 := Lib.hid f3
        have C4 := Lib.hid c4'
        have G0 := Lib.hid g0
        clear hca q2 q4 q8 hp hx w8 w9 ep hs c3 f3 c4' g0 hh r0 r3 hC ca cb
        refine fix5_mid (.agg #[x2]) 0 3 (by kernel_rfl) (by kernel_rfl) (fun J s _ hs hJ => ?_) ?_
        · have hc := HCA.out s hs
          go_simp
          exact hJ _ rfl
        intro J hJ
        go_simp
        refine hJ _ ?_
        clear hJ J
        refine fix5_eff 1 (.agg #[x5]) Q2.out (by kernel_rfl) (by kernel_rfl) (fun J hJ => ?_) ?_
        · go_simp
          go_at_call 30
          with_reducible refine (K_five _).mono ?_
          rintro e W1 ⟨x, rfl, hx, hb⟩
          exact hJ _ _ ⟨hb, fun _ => ⟨x, rfl, hx⟩⟩
        intro J hJ
        go_simp
        refine hJ _ ?_
        clear hJ J
        refine fix5_eff 2 (.tuple #[.agg #[.slice A4 (N n).length c4], .bool true]) Q4.out (by kernel_rfl) (by kernel_rfl) (fun J hJ => ?_) ?_
        · go_simp
          go_at_call 42
          with_reducible refine (HS.out).mono ?_
          rintro e W1 ⟨x, rfl, hx, hb⟩
          exact hJ _ _ ⟨hb, fun _ => ⟨x, rfl, hx⟩⟩
        intro J hJ
        go_simp
        refine hJ _ ?_
        clear hJ J
        refine fix5_step (.tuple #[.agg #[.slice A4 (N n).length c4], .bool true]) (by kernel_rfl) (by kernel_rfl) (fun J s _ _ hJ => ?_) ?_
        · go_simp
          exact hJ _ rfl
        intro J hJ
        go_simp
        refine hJ _ ?_
        clear hJ J
        refine fix5_step (.agg #[.slice A4 (N n).length c4]) (by kernel_rfl) (by kernel_rfl) (fun J s _ _ hJ => ?_) ?_
        · go_simp
          exact hJ _ rfl
        intro J hJ
        go_simp
        refine hJ _ ?_
        clear hJ J
        refine fix5_step (.bool true) (by kernel_rfl) (by kernel_rfl) (fun J s _ _ hJ => ?_) ?_
        · go_simp
          exact hJ _ rfl
        intro J hJ
        go_simp
        refine hJ _ ?_
        clear hJ J
        refine fix5_eff 0 (.pointer (some ⟨p, 0, none⟩)) Q8.out (by kernel_rfl) (by kernel_rfl) (fun J hJ => ?_) ?_
        · go_simp
          exact hJ _ _ ⟨rfl, rfl⟩
        intro J hJ
        go_simp
        refine hJ _ ?_
        clear hJ J
        refine fix5_eff 3 _ rfl (by kernel_rfl) (by kernel_rfl) (fun J hJ => ?_) ?_
        · have c3 := C3.out
          have f3 := F3.out
          go_simp
          refine hJ _ undef (fun p' x' h1 h2 => ?_)
          rw [HP.out] at h1
          rw [HX.out] at h2
          cases h1
          cases h2
          rfl
        intro J hJ
        go_simp
        refine hJ _ ?_
        clear hJ J
        refine fix5_step (.bool true) (by kernel_rfl) (by kernel_rfl) (fun J s _ _ hJ => ?_) ?_
        · go_simp
          exact hJ _ rfl
        intro J hJ
        go_simp
        refine hJ _ ?_
        clear hJ J
        refine fix5_nil ?_
        go_wp2_with (fail)
        go_meet
        case rel => exact ⟨p, _, rfl, rfl, l4, C4.out, k4, b4⟩
      case rest =>
        obtain ⟨px, ux, rfl, rfl, lc, cc, nc, bzx⟩ := hcut
        have hbx := hbz.trans (bzx.mono hbz.size)
        have na := nx.below bzx
        replace nb := nb.below bzx
        replace hst := hst.below bzx
        replace ca := (bzx.cell (p := ⟨a0, 0, none⟩) la).trans ca
        replace cb := (bzx.cell (p := ⟨B, 0, none⟩) lb).trans cb
        replace la := Nat.lt_of_lt_of_le la bzx.size
        replace lb := Nat.lt_of_lt_of_le lb bzx.size
        clear bzx hbz nx
        obtain ⟨wx, rfl⟩ : ∃ wx : World, wx = wc := ⟨_, rfl⟩
        go_wp2_with (fail)
        refine region_fix4 [[2, 4, 7, 11, 12, 15, 17, 19, 22, 23]] [2, 4, 7, 11, 12, 15, 17, 19, 22, 23] rfl (SW n) (by kernel_rfl) (by kernel_rfl) (sw_tot n) fun E hE g g0 hC => ?_
        obtain rfl := List.mem_singleton.1 hE
        clear hE
        have e0 : ∀ k, k < 10 → Below (g k).1.heap.size (g k).1 (g (k + 1)).1 := fun k hk => (hC k hk).1
        have bel : ∀ i j : Nat, i ≤ j → j ≤ 10 → Below (g i).1.heap.size (g i).1 (g j).1 := fun i j hij hj => by
          have := chain_below e0 (j - i) i (by omega)
          rwa [show i + (j - i) = j by omega] at this
        have b0 : Below wx.heap.size wx (g 0).1 := by rw [g0]; exact (Below.refl _ _).drew
        have bw : ∀ j : Nat, j ≤ 10 → Below wx.heap.size wx (g j).1 := fun j hj => b0.trans ((bel 0 j (by omega) hj).mono b0.size)
        have hca : ∀ j : Nat, j ≤ 10 → (g j).1.cell? ⟨a0, 0, none⟩ = some x2 := fun j hj => ((bw j hj).cell (p := ⟨a0, 0, none⟩) la).trans ca
        have hcb : ∀ j : Nat, j ≤ 10 → (g j).1.cell? ⟨B, 0, none⟩ = some y := fun j hj => ((bw j hj).cell (p := ⟨B, 0, none⟩) lb).trans cb
        have hcc : ∀ j : Nat, j ≤ 10 → (g j).1.cell? ⟨px, 0, none⟩ = some ux := fun j hj => ((bw j hj).cell (p := ⟨px, 0, none⟩) lc).trans cc
        have hNa : ∀ j : Nat, j ≤ 10 → IsK (g j).1 x2 (5 + n) 60 := fun j hj => na.below (bw j hj)
        have hNb : ∀ j : Nat, j ≤ 10 → IsK (g j).1 y (5 + n) 60 := fun j hj => nb.below (bw j hj)
        have hNc : ∀ j : Nat, j ≤ 10 → IsK (g j).1 ux n 60 := fun j hj => nc.below (bw j hj)
        have hSt : ∀ j : Nat, j ≤ 10 → Steps (g j).1 A l := fun j hj => hst.below (bw j hj)
        have q2 : (g 1).2 = .int .i64 0 := (hC 0 (by decide)).2 ⟨(g 0).1, _, Below.refl _ _, rfl⟩
        have q4 : (g 2).2 = .bool true := (hC 1 (by decide)).2 ⟨(g 1).1, _, Below.refl _ _, rfl⟩
        have q7 : (g 3).2 = .bool true := (hC 2 (by decide)).2 ⟨(g 2).1, _, Below.refl _ _, rfl⟩
        obtain ⟨xs, q11, K11⟩ : ∃ x, (g 4).2 = .agg #[x] ∧ IsK (g 4).1 x n 60 := (hC 3 (by decide)).2 (by
          obtain ⟨_, W2, x, _, hx, hb⟩ := calls_some (HSUM.out (g 3).1 (hSt 3 (by omega)))
          exact ⟨W2, _, hb, x, rfl, hx⟩)
        have q12 : (g 5).2 = .int .i64 0 := (hC 4 (by decide)).2 ⟨(g 4).1, _, Below.refl _ _, rfl⟩
        have q15 : (g 6).2 = .bool true := (hC 5 (by decide)).2 ⟨(g 5).1, _, Below.refl _ _, rfl⟩
        have q17 : (g 7).2 = .string (dec (5 + n)) := (hC 6 (by decide)).2 ⟨(g 6).1, _, Below.refl _ _, rfl⟩
        have q19 : (g 8).2 = .string (dec (5 + n)) := (hC 7 (by decide)).2 ⟨(g 7).1, _, Below.refl _ _, rfl⟩
        have q22 : (g 9).2 = .bool true := (hC 8 (by decide)).2 ⟨(g 8).1, _, Below.refl _ _, rfl⟩
        have q23 : (g 10).2 = .int .i64 256 := (hC 9 (by decide)).2 ⟨(g 9).1, _, Below.refl _ _, rfl⟩
        have Q2 := Lib.hid q2
        have Q4 := Lib.hid q4
        have Q7 := Lib.hid q7
        have Q11 := Lib.hid q11
        have Q12 := Lib.hid q12
        have Q15 := Lib.hid q15
        have Q17 := Lib.hid q17
        have Q19 := Lib.hid q19
        have Q22 := Lib.hid q22
        have Q23 := Lib.hid q23
        have G0 := Lib.hid g0
        clear q2 q4 q7 q11 q12 q15 q17 q19 q22 q23 g0 hC e0
        refine fix4_mid (.agg #[x2]) 0 10 (by kernel_rfl) (by kernel_rfl) (fun J s _ hs hJ => ?_) ?_
        · have hc := hca s hs
          go_simp
          exact hJ _ rfl
        intro J hJ
        go_simp
        refine hJ _ ?_
        clear hJ J
        refine fix4_mid (.agg #[y]) 0 10 (by kernel_rfl) (by kernel_rfl) (fun J s _ hs hJ => ?_) ?_
        · have hc := hcb s hs
          go_simp
          exact hJ _ rfl
        intro J hJ
        go_simp
        refine hJ _ ?_
        clear hJ J
        refine fix4_eff 0 (.int .i64 0) Q2.out (by kernel_rfl) (by kernel_rfl) (fun J hJ => ?_) ?_
        · go_simp
          go_at_call 33
          with_reducible refine (K_cmp0 (hNa 0 (by omega)) (hNb 0 (by omega)) (by omega) (by omega)).mono ?_
          rintro e W1 ⟨rfl, hb⟩
          exact hJ _ _ ⟨hb, fun _ => rfl⟩
        intro J hJ
        go_simp
        refine hJ _ ?_
        clear hJ J
        refine fix4_step (.bool true) (by kernel_rfl) (by kernel_rfl) (fun J s _ _ hJ => ?_) ?_
        · go_simp
          exact hJ _ rfl
        intro J hJ
        go_simp
        refine hJ _ ?_
        clear hJ J
        refine fix4_eff 1 (.bool true) Q4.out (by kernel_rfl) (by kernel_rfl) (fun J hJ => ?_) ?_
        · go_simp
          exact hJ _ _ ⟨Below.refl _ _, fun _ => rfl⟩
        intro J hJ
        go_simp
        refine hJ _ ?_
        clear hJ J
        refine fix4_step (.bool true) (by kernel_rfl) (by kernel_rfl) (fun J s _ _ hJ => ?_) ?_
        · go_simp
          exact hJ _ rfl
        intro J hJ
        go_simp
        refine hJ _ ?_
        clear hJ J
        refine fix4_step (.bool true) (by kernel_rfl) (by kernel_rfl) (fun J s _ _ hJ => ?_) ?_
        · go_simp
          exact hJ _ rfl
        intro J hJ
        go_simp
        refine hJ _ ?_
        clear hJ J
        refine fix4_eff 2 (.bool true) Q7.out (by kernel_rfl) (by kernel_rfl) (fun J hJ => ?_) ?_
        · go_simp
          exact hJ _ _ ⟨Below.refl _ _, fun _ => rfl⟩
        intro J hJ
        go_simp
        refine hJ _ ?_
        clear hJ J
        refine fix4_mid (.agg #[ux]) 0 10 (by kernel_rfl) (by kernel_rfl) (fun J s _ hs hJ => ?_) ?_
        · have hc := hcc s hs
          go_simp
          exact hJ _ rfl
        intro J hJ
        go_simp
        refine hJ _ ?_
        clear hJ J
        refine fix4_step (.agg #[.slice none 0 0]) (by kernel_rfl) (by kernel_rfl) (fun J s _ _ hJ => ?_) ?_
        · go_simp
          exact hJ _ rfl
        intro J hJ
        go_simp
        refine hJ _ ?_
        clear hJ J
        refine fix4_step (.slice A ll c) (by kernel_rfl) (by kernel_rfl) (fun J s _ _ hJ => ?_) ?_
        · go_simp
          exact hJ _ rfl
        intro J hJ
        go_simp
        refine hJ _ ?_
        clear hJ J
        refine fix4_eff 3 (.agg #[xs]) Q11.out (by kernel_rfl) (by kernel_rfl) (fun J hJ => ?_) ?_
        · go_simp
          go_at_call 36
          with_reducible refine (HSUM.out _ (hSt 3 (by omega))).mono ?_
          rintro e W1 ⟨x, rfl, hx, hb⟩
          exact hJ _ _ ⟨hb, fun _ => ⟨x, rfl, hx⟩⟩
        intro J hJ
        go_simp
        refine hJ _ ?_
        clear hJ J
        refine fix4_eff 4 (.int .i64 0) Q12.out (by kernel_rfl) (by kernel_rfl) (fun J hJ => ?_) ?_
        · go_simp
          go_at_call 33
          with_reducible refine (K_cmp0 (hNc 4 (by omega)) K11 (by omega) (by omega)).mono ?_
          rintro e W1 ⟨rfl, hb⟩
          exact hJ _ _ ⟨hb, fun _ => rfl⟩
        intro J hJ
        go_simp
        refine hJ _ ?_
        clear hJ J
        refine fix4_step (.bool true) (by kernel_rfl) (by kernel_rfl) (fun J s _ _ hJ => ?_) ?_
        · go_simp
          exact hJ _ rfl
        intro J hJ
        go_simp
        refine hJ _ ?_
        clear hJ J
        refine fix4_step (.bool true) (by kernel_rfl) (by kernel_rfl) (fun J s _ _ hJ => ?_) ?_
        · go_simp
          exact hJ _ rfl
        intro J hJ
        go_simp
        refine hJ _ ?_
        clear hJ J
        refine fix4_eff 5 (.bool true) Q15.out (by kernel_rfl) (by kernel_rfl) (fun J hJ => ?_) ?_
        · go_simp
          exact hJ _ _ ⟨Below.refl _ _, fun _ => rfl⟩
        intro J hJ
        go_simp
        refine hJ _ ?_
        clear hJ J
        refine fix4_mid (.agg #[x2]) 0 10 (by kernel_rfl) (by kernel_rfl) (fun J s _ hs hJ => ?_) ?_
        · have hc := hca s hs
          go_simp
          exact hJ _ rfl
        intro J hJ
        go_simp
        refine hJ _ ?_
        clear hJ J
        refine fix4_eff 6 (.string (dec (5 + n))) Q17.out (by kernel_rfl) (by kernel_rfl) (fun J hJ => ?_) ?_
        · go_simp
          go_at_call 26
          with_reducible refine (K_text (hNa 6 (by omega)) (by omega)).mono ?_
          rintro e W1 ⟨rfl, hb⟩
          exact hJ _ _ ⟨hb, fun _ => rfl⟩
        intro J hJ
        go_simp
        refine hJ _ ?_
        clear hJ J
        refine fix4_mid (.agg #[y]) 0 10 (by kernel_rfl) (by kernel_rfl) (fun J s _ hs hJ => ?_) ?_
        · have hc := hcb s hs
          go_simp
          exact hJ _ rfl
        intro J hJ
        go_simp
        refine hJ _ ?_
        clear hJ J
        refine fix4_eff 7 (.string (dec (5 + n))) Q19.out (by kernel_rfl) (by kernel_rfl) (fun J hJ => ?_) ?_
        · go_simp
          go_at_call 26
          with_reducible refine (K_text (hNb 7 (by omega)) (by omega)).mono ?_
          rintro e W1 ⟨rfl, hb⟩
          exact hJ _ _ ⟨hb, fun _ => rfl⟩
        intro J hJ
        go_simp
        refine hJ _ ?_
        clear hJ J
        refine fix4_step (.bool true) (by kernel_rfl) (by kernel_rfl) (fun J s _ _ hJ => ?_) ?_
        · go_simp
          exact hJ _ rfl
        intro J hJ
        go_simp
        refine hJ _ ?_
        clear hJ J
        refine fix4_step (.bool true) (by kernel_rfl) (by kernel_rfl) (fun J s _ _ hJ => ?_) ?_
        · go_simp
          exact hJ _ rfl
        intro J hJ
        go_simp
        refine hJ _ ?_
        clear hJ J
        refine fix4_eff 8 (.bool true) Q22.out (by kernel_rfl) (by kernel_rfl) (fun J hJ => ?_) ?_
        · go_simp
          exact hJ _ _ ⟨Below.refl _ _, fun _ => rfl⟩
        intro J hJ
        go_simp
        refine hJ _ ?_
        clear hJ J
        refine fix4_eff 9 (.int .i64 256) Q23.out (by kernel_rfl) (by kernel_rfl) (fun J hJ => ?_) ?_
        · go_simp
          go_at_call 17
          with_reducible refine (K_log2 _).mono ?_
          rintro e W1 ⟨rfl, hb⟩
          exact hJ _ _ ⟨hb, fun _ => rfl⟩
        intro J hJ
        go_simp
        refine hJ _ ?_
        clear hJ J
        refine fix4_step (.bool true) (by kernel_rfl) (by kernel_rfl) (fun J s _ _ hJ => ?_) ?_
        · go_simp
          exact hJ _ rfl
        intro J hJ
        go_simp
        refine hJ _ ?_
        clear hJ J
        refine fix4_step (.bool true) (by kernel_rfl) (by kernel_rfl) (fun J s _ _ hJ => ?_) ?_
        · go_simp
          exact hJ _ rfl
        intro J hJ
        go_simp
        refine hJ _ ?_
        clear hJ J
        refine fix4_step (.bool true) (by kernel_rfl) (by kernel_rfl) (fun J s _ _ hJ => ?_) ?_
        · go_simp
          exact hJ _ rfl
        intro J hJ
        go_simp
        refine hJ _ ?_
        clear hJ J
        refine fix4_nil ?_
        go_wp2_with (fail)
        go_ret
        exact ⟨rfl, hbx.trans ((bw 10 (by omega)).mono hbx.size)⟩
end Go.Proofs.Ytclmdidgioggdaa.Num
