/- ref06.Check, ref06.New: the walks. -/
import Derived.Test.YtgkiehefneamcaaTabC
namespace Go.Proofs.Ytgkiehefneamcaa.Cod
open Go.RowKit
set_option maxHeartbeats 4000000 in
set_option maxRecDepth 100000 in
theorem R_check (A : Option Addr) (c : Nat) (l : List (Int × Int)) (least : Int) (w : World) (h : Ents w A l) (hm : l.length ≤ maxLen) :
    Calls Try.prog 53 #[.slice A l.length c, .int .i64 least] w fun e w' => e = .returned (.int .i64 (chk l least)) ∧ Below w.heap.size w w' := by
  unfold maxLen at hm
  by_cases hlen : 64 < l.length
  · have hc : chk l least = 4 := by unfold chk; rw [if_pos hlen]
    rw [hc]
    have h1 : (64 : Int) < (l.length : Int) := by omega
    go_enter Try.func53, Try.ntmps53
    go_wp2
    go_ret
    exact ⟨rfl, Below.refl _ _⟩
  have hz := chk_zero (least := least) hlen
  have hz1 : chk l least = 0 ∨ chk l least = 1 := by
    unfold chk
    rw [if_neg hlen]
    split <;> simp
  generalize chk l least = z at hz hz1
  have HZ := Lib.hid hz
  have HZ1 := Lib.hid hz1
  clear hz hz1
  have h1 : ¬ (64 : Int) < (l.length : Int) := by omega
  go_enter Try.func53, Try.ntmps53
  go_wp2
  go_loopw [12] (fun i wr => ChkRel w l least i wr) (fun i _ => l.length - (intOf i).toNat)
  case atStart => exact ⟨0, by omega, rfl, fun j _ hj => absurd hj (by omega), Below.refl _ _⟩
  case round =>
    obtain ⟨k, hk, rfl, hok, hb⟩ := hrel
    by_cases hlt : k < l.length
    · obtain ⟨ad, rfl, hadl, h1, h2⟩ := (h.below hb) k hlt
      have hlti : (k : Int) < (l.length : Int) := by omega
      have hke : eok least (prevOf l k) l[k] = true → ∀ j (h : j < l.length), j < k + 1 → eok least (prevOf l j) l[j] = true := fun e j h hj => by
        by_cases hjk : j < k
        · exact hok j h hjk
        · obtain rfl : j = k := by omega
          exact e
      have hkn : eok least (prevOf l k) l[k] = false → z = 1 := fun e => by
        rcases HZ1.out with h | h
        · have := HZ.out.1 h k hlt
          rw [e] at this
          cases this
        · exact h
      have hprev : prevOf l k = if k = 0 then none else (l[k - 1]?).map (·.1) := rfl
      have hpv : ∀ j, k = j + 1 → ∃ q : Int, prevOf l k = some q ∧ wr.cell? (ad.add (j * 2)) = some (.int .i64 q) := fun j hj => by
        subst hj
        obtain ⟨ad', e, _, g1, _⟩ := (h.below hb) j (by omega)
        injection e with e
        subst e
        exact ⟨l[j].1, by simp [prevOf, show j < l.length by omega], g1⟩
      have hp0 : k = 0 → prevOf l k = none := fun h => by simp [prevOf, h]
      generalize prevOf l k = pv at hke hkn hpv hp0
      generalize l[k] = p at h1 h2 hke hkn
      obtain ⟨m, n⟩ := p
      simp only at h1 h2
      clear hok hprev
      have HKE := Lib.hid hke
      have HKN := Lib.hid hkn
      clear hke hkn
      go_wp2_with (fail)
      obtain ⟨W, hW⟩ : ∃ W, W = wr.alloc (.cells #[.int .i64 m, .int .i64 n] 56) := ⟨_, rfl⟩
      rw [← hW]
      have hbW : Below w.heap.size w W := by subst hW; exact hb.alloc hb.size _
      have e0 : W.heap[wr.heap.size]? = some (.cells #[.int .i64 m, .int .i64 n] 56 (0, 0)) := by subst hW; exact heap_alloc_new _ _
      have e1 : W.cell? ⟨wr.heap.size, 0, none⟩ = some (.int .i64 m) := by simp [World.cell?, e0]
      have e2 : W.cell? ⟨wr.heap.size, 1, none⟩ = some (.int .i64 n) := by simp [World.cell?, e0]
      have hpw : ∀ j, k = j + 1 → ∃ q : Int, pv = some q ∧ W.cell? (ad.add (j * 2)) = some (.int .i64 q) := fun j hj => by
        obtain ⟨q, hq, hc⟩ := hpv j hj
        refine ⟨q, hq, ?_⟩
        subst hW
        exact ((Below.refl _ _).alloc (Nat.le_refl _) _).cell (p := ad.add (j * 2)) (by rw [addb]; exact hadl) |>.trans hc
      clear hW e0 h1 h2 hpv
      by_cases c1 : m < 0
      · have d1 : decide (m < 0) = true := decide_eq_true c1
        go_quiet (fail)
        go_wp2
        go_ret
        exact ⟨ret_eq (HKN.out (by simp [eok]; try omega)).symm, below_drewN hbW _⟩
      have d1 : decide (m < 0) = false := decide_eq_false c1
      by_cases c2 : 63 < m
      · have d2 : decide (63 < m) = true := decide_eq_true c2
        go_quiet (fail)
        go_wp2
        go_ret
        exact ⟨ret_eq (HKN.out (by simp [eok]; try omega)).symm, below_drewN hbW _⟩
      have d2 : decide (63 < m) = false := decide_eq_false c2
      by_cases c3 : n < least
      · have d3 : decide (n < least) = true := decide_eq_true c3
        go_quiet (fail)
        go_wp2
        go_ret
        exact ⟨ret_eq (HKN.out (by simp [eok]; try omega)).symm, below_drewN hbW _⟩
      have d3 : decide (n < least) = false := decide_eq_false c3
      by_cases c4 : 1099511627776 < n
      · have d4 : decide (1099511627776 < n) = true := decide_eq_true c4
        go_quiet (fail)
        go_wp2
        go_ret
        exact ⟨ret_eq (HKN.out (by simp [eok]; try omega)).symm, below_drewN hbW _⟩
      have d4 : decide (1099511627776 < n) = false := decide_eq_false c4
      rcases k with _ | j
      · obtain rfl := hp0 rfl
        go_quiet (fail)
        go_wp2
        go_roundw
        case rel => exact ⟨0 + 1, by omega, by go_num, HKE.out (by simp [eok]; try omega), below_drewN hbW _⟩
        case measure => simp [intOf]; omega
      · obtain ⟨q, rfl, hq⟩ := hpw j rfl
        have d5 : decide (0 < (j : Int) + 1) = true := decide_eq_true (by omega)
        have b1 : (j : Int) < (l.length : Int) := by omega
        by_cases c6 : m ≤ q
        · have d6 : decide (m ≤ q) = true := decide_eq_true c6
          go_quiet (fail)
          go_wp2
          go_ret
          exact ⟨ret_eq (HKN.out (by simp [eok]; try omega)).symm, below_drewN hbW _⟩
        · have d6 : decide (m ≤ q) = false := decide_eq_false c6
          go_quiet (fail)
          go_wp2
          go_roundw
          case rel => exact ⟨j + 1 + 1, by omega, by go_num, HKE.out (by simp [eok]; try omega), below_drewN hbW _⟩
          case measure => simp [intOf]; omega
    · obtain rfl : k = l.length := by omega
      have hzz := HZ.out.2 fun j h => hok j h h
      subst hzz
      go_wp2
      go_ret
      exact ⟨rfl, hb⟩
def newE (l : List (Int × Int)) : Int := if chk l 1 ≠ 0 then chk l 1 else if l = [] then 1 else 0
set_option maxRecDepth 100000 in
theorem R_new (A : Option Addr) (c : Nat) (l : List (Int × Int)) (w : World) (h : Ents w A l) (hm : l.length ≤ maxLen) :
    Calls Try.prog 46 #[.slice A l.length c] w fun e w' => e = .returned (.int .i64 (newE l)) ∧ Below w.heap.size w w' := by
  have hc := fun v hv => R_check A c l 1 v hv hm
  obtain ⟨r, hr⟩ : ∃ r, newE l = r := ⟨_, rfl⟩
  have hr' : r = if chk l 1 ≠ 0 then chk l 1 else if l = [] then 1 else 0 := by rw [← hr]; rfl
  rw [hr]
  clear hr
  generalize chk l 1 = z at hc hr'
  by_cases hz : z = 0
  · subst hz
    rw [if_neg (by omega)] at hr'
    by_cases hl : l = []
    · rw [if_pos hl] at hr'
      have hl0 : (l.length : Int) = 0 := by rw [hl]; rfl
      subst hr'
      clear hl
      go_enter Try.func46, Try.ntmps46
      go_wp2_with (go_at_call 53; (with_reducible refine (hc _ h).mono ?_); rintro e w1 ⟨rfl, f1⟩)
      go_ret
      exact ⟨rfl, f1⟩
    · rw [if_neg hl] at hr'
      have hl0 : ¬ (l.length : Int) = 0 := by have := List.length_pos_iff.2 hl; omega
      subst hr'
      clear hl
      go_enter Try.func46, Try.ntmps46
      go_wp2_with (go_at_call 53; (with_reducible refine (hc _ h).mono ?_); rintro e w1 ⟨rfl, f1⟩)
      go_ret
      exact ⟨rfl, f1⟩
  · rw [if_pos hz] at hr'
    subst hr'
    go_enter Try.func46, Try.ntmps46
    go_wp2_with (go_at_call 53; (with_reducible refine (hc _ h).mono ?_); rintro e w1 ⟨rfl, f1⟩)
    go_ret
    exact ⟨rfl, f1⟩
end Go.Proofs.Ytgkiehefneamcaa.Cod
