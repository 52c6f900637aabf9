/- Right: the walk. -/
import Derived.Test.YtgkiehefneamcaaTabR
import Derived.Test.YtgkiehefneamcaaBits
namespace Go.Proofs.Ytgkiehefneamcaa.Cod
open Go.RowKit
def RRel (w : World) (o : List (Int × Int)) (v : Value) (wr : World) : Prop := wr.ownsRow w.heap.size 56 2 v o.length (ec o) ∧ Below w.heap.size w wr
theorem infoR : (Try.prog.info? 56).map (fun i => (i.zero, i.size, i.bytes)) = some (some (.agg #[.int .i64 0, .int .i64 0]), 2, 16) := by kernel_rfl
set_option maxHeartbeats 4000000 in
set_option maxRecDepth 100000 in
theorem C_right (A : Option Addr) (c : Nat) (l : List (Int × Int)) (w : World) (h : Ents w A l) (hlc : l.length ≤ c) (hm : c ≤ maxLen) :
    Calls Try.prog 20 #[.slice A l.length c] w fun e w' => ∃ A' c', e = .returned (.slice A' (right l).length c') ∧ Ents w' A' (right l) ∧ Below w.heap.size w w' := by
  obtain ⟨i0, hi, hz0, hz1, hz2⟩ := info_parts infoR
  have hF := fun v => C_few A c l v hlc hm
  have hx := h.take 66
  have hxl : (l.take 66).length ≤ 66 := by rw [List.length_take]; omega
  obtain ⟨R, hR⟩ : ∃ R, right l = R := ⟨_, rfl⟩
  have hRd : R = if rightN (l.take 66) 64 = [] then [(0, 1)] else rightN (l.take 66) 64 := by rw [← hR]; rfl
  rw [hR]
  clear hR
  generalize l.take 66 = x at hF hx hxl hRd
  have HR := Lib.hid hRd
  clear hRd
  go_enter Try.func20, Try.ntmps20
  go_wp2
  go_loopw [3, 7] (fun v i wr => ∃ m : Nat, m ≤ 64 ∧ i = .int .i64 m ∧ RRel w (rightN x m) v wr) (fun _ i _ => 64 - (intOf i).toNat)
  case atStart => exact ⟨0, by omega, rfl, World.ownsRow_nil _ _ _ _, Below.refl _ _⟩
  case round =>
    obtain ⟨m, hm64, rfl, hown, hb⟩ := hrel
    by_cases hlt : m < 64
    · have hlti : (m : Int) < 64 := by omega
      have hrs := rightN_succ x m
      have hO := rises_rightN x m
      generalize rightN x m = o at hown hrs hO
      have HRS := Lib.hid hrs
      clear hrs
      go_wp2_with (go_at_call 38; (with_reducible refine (hF _).mono ?_); rintro e w1 ⟨rfl, rfl⟩)
      go_loopw [3, 13] (fun v i wr => ∃ k : Nat, k ≤ x.length ∧ i = .int .i64 k ∧ RRel w ((x.take k).foldl (rstep m) o) v wr) (fun _ i _ => x.length - (intOf i).toNat)
      case atStart => exact ⟨0, by omega, rfl, hown, hb⟩
      case round =>
        obtain ⟨k, hk, rfl, hown, hb⟩ := hrel
        by_cases hlt2 : k < x.length
        · obtain ⟨ad, rfl, hadl, h1, h2⟩ := (hx.below hb) k hlt2
          have hlti2 : (k : Int) < (x.length : Int) := by omega
          have htk : x.take (k + 1) = x.take k ++ [x[k]] := by rw [List.take_add_one, List.getElem?_eq_getElem hlt2]; rfl
          generalize x[k] = p at h1 h2 htk
          obtain ⟨p, n⟩ := p
          simp only at h1 h2
          have hfo : (x.take (k + 1)).foldl (rstep m) o = rstep m ((x.take k).foldl (rstep m) o) (p, n) := by rw [htk, List.foldl_append]; rfl
          have hrise := Rises.steps (x.take k) (hO.mono (show (m : Int) ≤ (m + 1 : Nat) by omega))
          generalize (x.take k).foldl (rstep m) o = q at hown hfo hrise
          have HFO := Lib.hid hfo
          have HRI := Lib.hid hrise
          clear htk hfo hrise hF hO
          by_cases c1 : p % 64 = m
          · have hab : bits .and .i64 p 63 = m := by rw [and63]; exact c1
            obtain ⟨A', c', rfl, hE⟩ := ents_of_own hown
            rcases List.eq_nil_or_concat q with hq | ⟨q', z, hq⟩
            · have hql : q.length = 0 := by rw [hq]; rfl
              have hlast : lastLt m q = true := by rw [hq]; rfl
              rw [hql] at hown ⊢
              clear hq
              rcases (show (n ≤ 1 ∧ max 1 (min n 1099511627776) = 1) ∨ (1099511627776 < n ∧ max 1 (min n 1099511627776) = 1099511627776) ∨ ((1 < n ∧ n ≤ 1099511627776) ∧ max 1 (min n 1099511627776) = n) by omega) with ⟨hn, hY⟩ | ⟨hn, hY⟩ | ⟨⟨hn, hn'⟩, hY⟩
              · go_wp2_with (at_builtin; refine wpList_append_own _ rfl _ _ 40 rfl w.heap.size 56 i0 (.agg #[.int .i64 0, .int .i64 0]) 2 16 Try.underlying40 hi hz0 hz1 hz2 rfl (by decide) _ _ _ rfl ((hown.alloc _).alloc _) ⟨wr.heap.size + 1, 0, none⟩ 1 1 [.int .i64 m, .int .i64 1] rfl ?c1 ?c2 ?c3 ?c4 ?c5 ?c6 ?_)
                case c1 => rfl
                case c2 =>
                  intro j u hu
                  rw [Addr.add_mid, Nat.zero_add, cell_of_row _ _ j _ _ _ (heap_alloc2_new wr _ _)]
                  simpa using hu
                case c3 =>
                  intro u hu
                  simp only [List.mem_cons, List.not_mem_nil, or_false] at hu
                  rcases hu with rfl | rfl <;> rfl
                case c4 => unfold maxLen; omega
                case c5 => omega
                case c6 => have := hb.size; simp; omega
                intro v' w1 hown' hgrow _
                go_wp2
                go_roundw
                case rel =>
                  refine ⟨k + 1, by omega, by go_num, ?_, ?_⟩
                  · rw [HFO.out]; unfold rstep; rw [if_pos ⟨c1, hlast⟩, hY, ec_snoc, List.length_append, hql]; exact hown'
                  · exact ((hb.alloc hb.size _).alloc (by have := hb.size; simp; omega) _).grown hgrow (by have := hb.size; simp; omega) (fun k hk => (hown.lt k hk).1)
                case measure => simp [intOf]; omega
              · go_wp2_with (at_builtin; refine wpList_append_own _ rfl _ _ 40 rfl w.heap.size 56 i0 (.agg #[.int .i64 0, .int .i64 0]) 2 16 Try.underlying40 hi hz0 hz1 hz2 rfl (by decide) _ _ _ rfl ((hown.alloc _).alloc _) ⟨wr.heap.size + 1, 0, none⟩ 1 1 [.int .i64 m, .int .i64 1099511627776] rfl ?c1 ?c2 ?c3 ?c4 ?c5 ?c6 ?_)
                case c1 => rfl
                case c2 =>
                  intro j u hu
                  rw [Addr.add_mid, Nat.zero_add, cell_of_row _ _ j _ _ _ (heap_alloc2_new wr _ _)]
                  simpa using hu
                case c3 =>
                  intro u hu
                  simp only [List.mem_cons, List.not_mem_nil, or_false] at hu
                  rcases hu with rfl | rfl <;> rfl
                case c4 => unfold maxLen; omega
                case c5 => omega
                case c6 => have := hb.size; simp; omega
                intro v' w1 hown' hgrow _
                go_wp2
                go_roundw
                case rel =>
                  refine ⟨k + 1, by omega, by go_num, ?_, ?_⟩
                  · rw [HFO.out]; unfold rstep; rw [if_pos ⟨c1, hlast⟩, hY, ec_snoc, List.length_append, hql]; exact hown'
                  · exact ((hb.alloc hb.size _).alloc (by have := hb.size; simp; omega) _).grown hgrow (by have := hb.size; simp; omega) (fun k hk => (hown.lt k hk).1)
                case measure => simp [intOf]; omega
              · go_wp2_with (at_builtin; refine wpList_append_own _ rfl _ _ 40 rfl w.heap.size 56 i0 (.agg #[.int .i64 0, .int .i64 0]) 2 16 Try.underlying40 hi hz0 hz1 hz2 rfl (by decide) _ _ _ rfl ((hown.alloc _).alloc _) ⟨wr.heap.size + 1, 0, none⟩ 1 1 [.int .i64 m, .int .i64 n] rfl ?c1 ?c2 ?c3 ?c4 ?c5 ?c6 ?_)
                case c1 => rfl
                case c2 =>
                  intro j u hu
                  rw [Addr.add_mid, Nat.zero_add, cell_of_row _ _ j _ _ _ (heap_alloc2_new wr _ _)]
                  simpa using hu
                case c3 =>
                  intro u hu
                  simp only [List.mem_cons, List.not_mem_nil, or_false] at hu
                  rcases hu with rfl | rfl <;> rfl
                case c4 => unfold maxLen; omega
                case c5 => omega
                case c6 => have := hb.size; simp; omega
                intro v' w1 hown' hgrow _
                go_wp2
                go_roundw
                case rel =>
                  refine ⟨k + 1, by omega, by go_num, ?_, ?_⟩
                  · rw [HFO.out]; unfold rstep; rw [if_pos ⟨c1, hlast⟩, hY, ec_snoc, List.length_append, hql]; exact hown'
                  · exact ((hb.alloc hb.size _).alloc (by have := hb.size; simp; omega) _).grown hgrow (by have := hb.size; simp; omega) (fun k hk => (hown.lt k hk).1)
                case measure => simp [intOf]; omega
            · rw [List.concat_eq_append] at hq
              have hql : q.length = q'.length + 1 := by rw [hq]; simp
              obtain ⟨ad', rfl, hadl', g1, _⟩ : ∃ ad', A' = some ad' ∧ ad'.block < wr.heap.size ∧ wr.cell? (ad'.add (q'.length * 2)) = some (.int .i64 z.1) ∧ True := by
                obtain ⟨ad', e, b, g1, _⟩ := hE q'.length (by omega)
                have hz : q[q'.length] = z := by simp [hq]
                rw [hz] at g1
                exact ⟨ad', e, b, g1, trivial⟩
              clear hE
              have hlast : lastLt m q = decide (z.1 < m) := by rw [hq]; simp [lastLt]
              have hjm := HRI.out.len
              obtain ⟨z, y⟩ := z
              simp only at g1 hlast
              obtain ⟨n1, hn1⟩ : ∃ n1, q.length = n1 := ⟨_, rfl⟩
              rw [hn1] at hown hjm hql ⊢
              have hj0 : ¬ n1 = 0 := by omega
              have hj0' : ¬ (n1 : Int) = 0 := by omega
              have hjb : ((n1 : Int) == 0) = false := by rw [beq_eq_false_iff_ne]; exact hj0'
              have hj1 : (0 : Int) ≤ (n1 : Int) - 1 := by omega
              have hj2 : (n1 : Int) - 1 < (n1 : Int) := by omega
              have hj3 : (n1 : Int) ≤ 100 := by omega
              have hj4 : n1 - 1 = q'.length := by omega
              have g1' : (wr.alloc (.cells #[.int .i64 p, .int .i64 n] 56)).cell? (ad'.add ((n1 - 1) * 2)) = some (.int .i64 z) := by rw [hj4]; exact (((Below.refl _ _).alloc (Nat.le_refl _) _).cell (p := ad'.add (q'.length * 2)) (by rw [addb]; exact hadl')).trans g1
              clear hq hadl' g1 hj4 hjm hql
              by_cases c2 : z < m
              · rcases (show (n ≤ 1 ∧ max 1 (min n 1099511627776) = 1) ∨ (1099511627776 < n ∧ max 1 (min n 1099511627776) = 1099511627776) ∨ ((1 < n ∧ n ≤ 1099511627776) ∧ max 1 (min n 1099511627776) = n) by omega) with ⟨hn, hY⟩ | ⟨hn, hY⟩ | ⟨⟨hn, hn'⟩, hY⟩
                · go_wp2_with (at_builtin; refine wpList_append_own _ rfl _ _ 40 rfl w.heap.size 56 i0 (.agg #[.int .i64 0, .int .i64 0]) 2 16 Try.underlying40 hi hz0 hz1 hz2 rfl (by decide) _ _ _ rfl ((hown.alloc _).alloc _) ⟨wr.heap.size + 1, 0, none⟩ 1 1 [.int .i64 m, .int .i64 1] rfl ?c1 ?c2 ?c3 ?c4 ?c5 ?c6 ?_)
                  case c1 => rfl
                  case c2 =>
                    intro j u hu
                    rw [Addr.add_mid, Nat.zero_add, cell_of_row _ _ j _ _ _ (heap_alloc2_new wr _ _)]
                    simpa using hu
                  case c3 =>
                    intro u hu
                    simp only [List.mem_cons, List.not_mem_nil, or_false] at hu
                    rcases hu with rfl | rfl <;> rfl
                  case c4 => unfold maxLen; omega
                  case c5 => omega
                  case c6 => have := hb.size; simp; omega
                  intro v' w1 hown' hgrow _
                  go_wp2
                  go_roundw
                  case rel =>
                    refine ⟨k + 1, by omega, by go_num, ?_, ?_⟩
                    · rw [HFO.out]; unfold rstep; rw [if_pos ⟨c1, by rw [hlast]; exact decide_eq_true c2⟩, hY, ec_snoc, List.length_append, hn1]; exact hown'
                    · exact ((hb.alloc hb.size _).alloc (by have := hb.size; simp; omega) _).grown hgrow (by have := hb.size; simp; omega) (fun k hk => (hown.lt k hk).1)
                  case measure => simp [intOf]; omega
                · go_wp2_with (at_builtin; refine wpList_append_own _ rfl _ _ 40 rfl w.heap.size 56 i0 (.agg #[.int .i64 0, .int .i64 0]) 2 16 Try.underlying40 hi hz0 hz1 hz2 rfl (by decide) _ _ _ rfl ((hown.alloc _).alloc _) ⟨wr.heap.size + 1, 0, none⟩ 1 1 [.int .i64 m, .int .i64 1099511627776] rfl ?c1 ?c2 ?c3 ?c4 ?c5 ?c6 ?_)
                  case c1 => rfl
                  case c2 =>
                    intro j u hu
                    rw [Addr.add_mid, Nat.zero_add, cell_of_row _ _ j _ _ _ (heap_alloc2_new wr _ _)]
                    simpa using hu
                  case c3 =>
                    intro u hu
                    simp only [List.mem_cons, List.not_mem_nil, or_false] at hu
                    rcases hu with rfl | rfl <;> rfl
                  case c4 => unfold maxLen; omega
                  case c5 => omega
                  case c6 => have := hb.size; simp; omega
                  intro v' w1 hown' hgrow _
                  go_wp2
                  go_roundw
                  case rel =>
                    refine ⟨k + 1, by omega, by go_num, ?_, ?_⟩
                    · rw [HFO.out]; unfold rstep; rw [if_pos ⟨c1, by rw [hlast]; exact decide_eq_true c2⟩, hY, ec_snoc, List.length_append, hn1]; exact hown'
                    · exact ((hb.alloc hb.size _).alloc (by have := hb.size; simp; omega) _).grown hgrow (by have := hb.size; simp; omega) (fun k hk => (hown.lt k hk).1)
                  case measure => simp [intOf]; omega
                · go_wp2_with (at_builtin; refine wpList_append_own _ rfl _ _ 40 rfl w.heap.size 56 i0 (.agg #[.int .i64 0, .int .i64 0]) 2 16 Try.underlying40 hi hz0 hz1 hz2 rfl (by decide) _ _ _ rfl ((hown.alloc _).alloc _) ⟨wr.heap.size + 1, 0, none⟩ 1 1 [.int .i64 m, .int .i64 n] rfl ?c1 ?c2 ?c3 ?c4 ?c5 ?c6 ?_)
                  case c1 => rfl
                  case c2 =>
                    intro j u hu
                    rw [Addr.add_mid, Nat.zero_add, cell_of_row _ _ j _ _ _ (heap_alloc2_new wr _ _)]
                    simpa using hu
                  case c3 =>
                    intro u hu
                    simp only [List.mem_cons, List.not_mem_nil, or_false] at hu
                    rcases hu with rfl | rfl <;> rfl
                  case c4 => unfold maxLen; omega
                  case c5 => omega
                  case c6 => have := hb.size; simp; omega
                  intro v' w1 hown' hgrow _
                  go_wp2
                  go_roundw
                  case rel =>
                    refine ⟨k + 1, by omega, by go_num, ?_, ?_⟩
                    · rw [HFO.out]; unfold rstep; rw [if_pos ⟨c1, by rw [hlast]; exact decide_eq_true c2⟩, hY, ec_snoc, List.length_append, hn1]; exact hown'
                    · exact ((hb.alloc hb.size _).alloc (by have := hb.size; simp; omega) _).grown hgrow (by have := hb.size; simp; omega) (fun k hk => (hown.lt k hk).1)
                  case measure => simp [intOf]; omega
              · go_wp2_with (fail)
                go_roundw
                case rel => exact ⟨k + 1, by omega, by go_num, by rw [HFO.out]; unfold rstep; rw [if_neg (fun h => c2 (of_decide_eq_true (hlast.symm.trans h.2)))]; rw [hn1]; exact hown.alloc _, hb.alloc hb.size _⟩
                case measure => simp [intOf]; omega
          · have hab : ¬ bits .and .i64 p 63 = m := by rw [and63]; exact c1
            go_wp2_with (fail)
            go_roundw
            case rel => exact ⟨k + 1, by omega, by go_num, by rw [HFO.out]; unfold rstep; rw [if_neg (fun h => c1 h.1)]; exact hown.alloc _, hb.alloc hb.size _⟩
            case measure => simp [intOf]; omega
        · obtain rfl : k = x.length := by omega
          rw [List.take_length] at hown
          go_wp2
          go_roundw
          case rel => exact ⟨m + 1, by omega, by go_num, by rw [HRS.out]; exact ⟨hown, hb⟩⟩
          case measure => simp [intOf]; omega
    · obtain rfl : m = 64 := by omega
      have HRo := HR.out
      generalize rightN x 64 = o at hown HRo
      by_cases ho : o = []
      · rw [if_pos ho] at HRo
        have ho0 : o.length = 0 := by rw [ho]; rfl
        obtain ⟨A', c', rfl, hE⟩ := ents_of_own hown
        rw [ho0]
        clear HR hown hE ho ho0
        subst HRo
        go_wp2
        go_ret
        exact ⟨_, _, rfl, ents_block (t := 56) (heap_alloc_new _ _), hb.alloc hb.size _⟩
      · rw [if_neg ho] at HRo
        have ho0 : ¬ (o.length : Int) = 0 := by have := List.length_pos_iff.2 ho; omega
        subst HRo
        obtain ⟨A', c', rfl, hE⟩ := ents_of_own hown
        go_wp2
        go_ret
        exact ⟨A', c', rfl, hE, hb⟩
end Go.Proofs.Ytgkiehefneamcaa.Cod
