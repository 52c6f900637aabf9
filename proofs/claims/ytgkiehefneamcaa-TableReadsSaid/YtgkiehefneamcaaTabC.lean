/- table.check: the walk. -/
import Derived.Test.YtgkiehefneamcaaTabE
import Derived.BigQuiet
import Derived.Deep.QuietTactic
namespace Go.Proofs.Ytgkiehefneamcaa.Cod
open Go.RowKit
/-- is an entry, behind the one before, such as may be? -/
def eok (least : Int) (prev : Option Int) (p : Int × Int) : Bool := decide (0 ≤ p.1 ∧ p.1 < 64 ∧ least ≤ p.2 ∧ p.2 ≤ 1099511627776) && (match prev with | none => true | some q => decide (q < p.1))
def eall (least : Int) : Option Int → List (Int × Int) → Bool
  | _, [] => true
  | prev, p :: l => eok least prev p && eall least (some p.1) l
def chk (l : List (Int × Int)) (least : Int) : Int := if 64 < l.length then 4 else if eall least none l then 0 else 1
/-- the miner of the entry before -/
def prevOf (l : List (Int × Int)) (k : Nat) : Option Int := if k = 0 then none else (l[k - 1]?).map (·.1)
theorem eall_get {least : Int} : ∀ (l : List (Int × Int)) (q : Option Int), eall least q l = true ↔ ∀ k (h : k < l.length), eok least (if k = 0 then q else (l[k - 1]?).map (·.1)) l[k] = true
  | [], q => by simp [eall]
  | p :: l, q => by
    simp only [eall, Bool.and_eq_true, eall_get l (some p.1)]
    constructor
    · rintro ⟨h0, h1⟩ k hk
      cases k with
      | zero => simpa using h0
      | succ k =>
        have := h1 k (by simpa using hk)
        cases k with
        | zero => simpa using this
        | succ k => simpa using this
    · intro h
      refine ⟨h 0 (by simp), fun k hk => ?_⟩
      have := h (k + 1) (by simpa using hk)
      cases k with
      | zero => simpa using this
      | succ k => simpa using this
theorem chk_zero {l : List (Int × Int)} {least : Int} (hl : ¬ 64 < l.length) : chk l least = 0 ↔ ∀ k (h : k < l.length), eok least (prevOf l k) l[k] = true := by
  unfold chk
  rw [if_neg hl]
  have e := eall_get (least := least) l none
  by_cases h : eall least none l = true
  · simp only [h, if_true, true_iff]
    exact e.1 h
  · rw [if_neg h]
    exact ⟨fun h => absurd h (by decide), fun g => absurd (e.2 g) h⟩
def ChkRel (w : World) (l : List (Int × Int)) (least : Int) (i : Value) (wr : World) : Prop := ∃ k : Nat, k ≤ l.length ∧ i = .int .i64 k ∧ (∀ j (h : j < l.length), j < k → eok least (prevOf l j) l[j] = true) ∧ Below w.heap.size w wr
theorem below_drewN {B : Nat} {a w : World} (h : Below B a w) (n : Nat) : Below B a (w.drewN n) := ⟨h.os, h.tape, h.output, h.size, h.block⟩
theorem ret_eq {a b : Int} (h : a = b) : Ending.returned (.int .i64 a) = .returned (.int .i64 b) := by rw [h]
set_option maxHeartbeats 4000000 in
set_option maxRecDepth 100000 in
theorem C_tchk (A : Option Addr) (c : Nat) (l : List (Int × Int)) (least : Int) (w : World) (h : Ents w A l) (hm : l.length ≤ maxLen) :
    Calls Try.prog 39 #[.slice A l.length c, .int .i64 least] w fun e w' => e = .returned (.int .i64 (chk l least)) ∧ Below w.heap.size w w' := by
  unfold maxLen at hm
  by_cases hlen : 64 < l.length
  · have hc : chk l least = 4 := by unfold chk; rw [if_pos hlen]
    rw [hc]
    have h1 : (64 : Int) < (l.length : Int) := by omega
    go_enter Try.func39, Try.ntmps39
    go_wp2
    go_ret
    exact ⟨rfl, Below.refl _ _⟩
  have hz := chk_zero (least := least) hlen
  have hz1 : chk l least = 0 ∨ chk l least = 1 := by
    unfold chk
    rw [if_neg hlen]
    split <;> simp
  generalize chk l least = z at hz hz1
  have HZ := Lib.hid hz
  have HZ1 := Lib.hid hz1
  clear hz hz1
  have h1 : ¬ (64 : Int) < (l.length : Int) := by omega
  go_enter Try.func39, Try.ntmps39
  go_wp2
  go_loopw [12] (fun i wr => ChkRel w l least i wr) (fun i _ => l.length - (intOf i).toNat)
  case atStart => exact ⟨0, by omega, rfl, fun j _ hj => absurd hj (by omega), Below.refl _ _⟩
  case round =>
    obtain ⟨k, hk, rfl, hok, hb⟩ := hrel
    by_cases hlt : k < l.length
    · obtain ⟨ad, rfl, hadl, h1, h2⟩ := (h.below hb) k hlt
      have hlti : (k : Int) < (l.length : Int) := by omega
      have hke : eok least (prevOf l k) l[k] = true → ∀ j (h : j < l.length), j < k + 1 → eok least (prevOf l j) l[j] = true := fun e j h hj => by
        by_cases hjk : j < k
        · exact hok j h hjk
        · obtain rfl : j = k := by omega
          exact e
      have hkn : eok least (prevOf l k) l[k] = false → z = 1 := fun e => by
        rcases HZ1.out with h | h
        · have := HZ.out.1 h k hlt
          rw [e] at this
          cases this
        · exact h
      have hprev : prevOf l k = if k = 0 then none else (l[k - 1]?).map (·.1) := rfl
      have hpv : ∀ j, k = j + 1 → ∃ q : Int, prevOf l k = some q ∧ wr.cell? (ad.add (j * 2)) = some (.int .i64 q) := fun j hj => by
        subst hj
        obtain ⟨ad', e, _, g1, _⟩ := (h.below hb) j (by omega)
        injection e with e
        subst e
        exact ⟨l[j].1, by simp [prevOf, show j < l.length by omega], g1⟩
      have hp0 : k = 0 → prevOf l k = none := fun h => by simp [prevOf, h]
      generalize prevOf l k = pv at hke hkn hpv hp0
      generalize l[k] = p at h1 h2 hke hkn
      obtain ⟨m, n⟩ := p
      simp only at h1 h2
      clear hok hprev
      have HKE := Lib.hid hke
      have HKN := Lib.hid hkn
      clear hke hkn
      go_wp2_with (fail)
      obtain ⟨W, hW⟩ : ∃ W, W = wr.alloc (.cells #[.int .i64 m, .int .i64 n] 81) := ⟨_, rfl⟩
      rw [← hW]
      have hbW : Below w.heap.size w W := by subst hW; exact hb.alloc hb.size _
      have e0 : W.heap[wr.heap.size]? = some (.cells #[.int .i64 m, .int .i64 n] 81 (0, 0)) := by subst hW; exact heap_alloc_new _ _
      have e1 : W.cell? ⟨wr.heap.size, 0, none⟩ = some (.int .i64 m) := by simp [World.cell?, e0]
      have e2 : W.cell? ⟨wr.heap.size, 1, none⟩ = some (.int .i64 n) := by simp [World.cell?, e0]
      have hpw : ∀ j, k = j + 1 → ∃ q : Int, pv = some q ∧ W.cell? (ad.add (j * 2)) = some (.int .i64 q) := fun j hj => by
        obtain ⟨q, hq, hc⟩ := hpv j hj
        refine ⟨q, hq, ?_⟩
        subst hW
        exact ((Below.refl _ _).alloc (Nat.le_refl _) _).cell (p := ad.add (j * 2)) (by rw [addb]; exact hadl) |>.trans hc
      clear hW e0 h1 h2 hpv
      by_cases c1 : m < 0
      · have d1 : decide (m < 0) = true := decide_eq_true c1
        go_quiet (fail)
        go_wp2
        go_ret
        exact ⟨ret_eq (HKN.out (by simp [eok]; try omega)).symm, below_drewN hbW _⟩
      have d1 : decide (m < 0) = false := decide_eq_false c1
      by_cases c2 : 64 ≤ m
      · have d2 : decide (64 ≤ m) = true := decide_eq_true c2
        go_quiet (fail)
        go_wp2
        go_ret
        exact ⟨ret_eq (HKN.out (by simp [eok]; try omega)).symm, below_drewN hbW _⟩
      have d2 : decide (64 ≤ m) = false := decide_eq_false c2
      by_cases c3 : n < least
      · have d3 : decide (n < least) = true := decide_eq_true c3
        go_quiet (fail)
        go_wp2
        go_ret
        exact ⟨ret_eq (HKN.out (by simp [eok]; try omega)).symm, below_drewN hbW _⟩
      have d3 : decide (n < least) = false := decide_eq_false c3
      by_cases c4 : 1099511627776 < n
      · have d4 : decide (1099511627776 < n) = true := decide_eq_true c4
        go_quiet (fail)
        go_wp2
        go_ret
        exact ⟨ret_eq (HKN.out (by simp [eok]; try omega)).symm, below_drewN hbW _⟩
      have d4 : decide (1099511627776 < n) = false := decide_eq_false c4
      rcases k with _ | j
      · obtain rfl := hp0 rfl
        go_quiet (fail)
        go_wp2
        go_roundw
        case rel => exact ⟨0 + 1, by omega, by go_num, HKE.out (by simp [eok]; try omega), below_drewN hbW _⟩
        case measure => simp [intOf]; omega
      · obtain ⟨q, rfl, hq⟩ := hpw j rfl
        have d5 : decide (0 < (j : Int) + 1) = true := decide_eq_true (by omega)
        have b1 : (j : Int) < (l.length : Int) := by omega
        by_cases c6 : m ≤ q
        · have d6 : decide (m ≤ q) = true := decide_eq_true c6
          go_quiet (fail)
          go_wp2
          go_ret
          exact ⟨ret_eq (HKN.out (by simp [eok]; try omega)).symm, below_drewN hbW _⟩
        · have d6 : decide (m ≤ q) = false := decide_eq_false c6
          go_quiet (fail)
          go_wp2
          go_roundw
          case rel => exact ⟨j + 1 + 1, by omega, by go_num, HKE.out (by simp [eok]; try omega), below_drewN hbW _⟩
          case measure => simp [intOf]; omega
    · obtain rfl : k = l.length := by omega
      have hzz := HZ.out.2 fun j h => hok j h h
      subst hzz
      go_wp2
      go_ret
      exact ⟨rfl, hb⟩
end Go.Proofs.Ytgkiehefneamcaa.Cod
