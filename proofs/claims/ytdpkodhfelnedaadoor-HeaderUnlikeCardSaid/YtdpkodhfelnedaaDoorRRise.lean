/- ref05.Rise. Contract by what it means. (under way) -/
import Derived.Test.YtdpkodhfelnedaaDoorHdrRoot
import Derived.Laws.Cover1
import Derived.BigQuiet
import Derived.Deep.QuietTactic
namespace Go.Proofs.YtdpkodhfelnedaaDoor.Cod
open Go.RowKit
theorem less_cmp : ∀ x y : List UInt8, Op.bytesLess x y = decide (Lib.compareBytes x y < 0)
  | [], [] => rfl
  | [], _ :: _ => rfl
  | _ :: _, [] => rfl
  | a :: x, b :: y => by
    have ih := less_cmp x y
    unfold Op.bytesLess Lib.compareBytes
    by_cases h1 : a < b
    · simp [h1]
    · by_cases h2 : b < a
      · have h3 : ¬ a = b := fun e => by subst e; exact h1 h2
        simp [h1, h2, h3]
      · have h3 : a = b := UInt8.le_antisymm (UInt8.not_lt.1 h2) (UInt8.not_lt.1 h1)
        subst h3
        simp [ih]
theorem below_drewN {B : Nat} {a w : World} (h : Below B a w) (n : Nat) : Below B a (w.drewN n) := ⟨h.os, h.tape, h.output, h.size, h.block⟩
def RriseRel (w : World) (n : Nat) (l : List (List UInt8)) (i : Value) (wr : World) : Prop :=
  ∃ k : Nat, k ≤ n ∧ i = .int .i64 k ∧ (∀ j (h : j + 1 < l.length), j + 1 < k → Lib.compareBytes l[j] l[j + 1] < 0) ∧ Below w.heap.size w wr
set_option maxHeartbeats 2000000 in
set_option maxRecDepth 100000 in
theorem C_rrise {w : World} {A : Option Addr} {c : Nat} {xs : List ByteArray} (h : TextsAt w A c xs) (h63 : xs.length ≤ 4611686018427387904) :
    Calls Tryd.prog 17 #[.slice A xs.length c] w fun e w' => e = .returned (.bool (rises (xs.map bl))) ∧ Below w.heap.size w w' := by
  go_enter Tryd.func17, Tryd.ntmps17
  go_wp2
  go_loopw [6] (fun i wr => RriseRel w xs.length (xs.map bl) i wr) (fun i _ => xs.length - (intOf i).toNat)
  case atStart => exact ⟨0, by omega, rfl, fun j _ hj => absurd hj (by omega), Below.refl _ _⟩
  case round =>
    obtain ⟨k, hk, rfl, hr, hb⟩ := hrel
    by_cases hlt : k < xs.length
    · have hltI : (k : Int) < (xs.length : Int) := by omega
      rcases k with _ | j
      · go_wp2_with (fail)
        go_quiet (fail)
        go_wp2
        go_roundw
        case rel => exact ⟨0 + 1, by omega, by go_num, fun j _ hj => absurd hj (by omega), below_drewN hb _⟩
        case measure => simp [intOf]; omega
      · obtain ⟨b, o, rfl, hbl, hc⟩ := h.2 (by omega)
        have hjx : j < xs.length := by omega
        have c1 : wr.drew.cell? ⟨b, o + j, none⟩ = some (.string xs[j]) := (hb.cell (p := ⟨b, o + j, none⟩) hbl).trans (hc j _ (List.getElem?_eq_getElem hjx))
        have c2 : wr.drew.cell? ⟨b, o + (j + 1), none⟩ = some (.string xs[j + 1]) := (hb.cell (p := ⟨b, o + (j + 1), none⟩) hbl).trans (hc (j + 1) _ (List.getElem?_eq_getElem hlt))
        have hxy : ∀ (h' : j + 1 < (xs.map bl).length), (xs.map bl)[j] = bl xs[j] ∧ (xs.map bl)[j + 1] = bl xs[j + 1] := fun h' => ⟨by simp, by simp⟩
        have hlm : j + 1 < (xs.map bl).length := by simpa using hlt
        have hcmp := less_cmp (bl xs[j]) (bl xs[j + 1])
        have hq1 := rises_get (l := xs.map bl)
        have hq2 : rises (xs.map bl) = true → Lib.compareBytes (bl xs[j]) (bl xs[j + 1]) < 0 := fun e => by
          have := hq1.1 e j hlm
          rwa [(hxy hlm).1, (hxy hlm).2] at this
        have hq3 : Lib.compareBytes (bl xs[j]) (bl xs[j + 1]) < 0 → ∀ i (h : i + 1 < (xs.map bl).length), i + 1 < j + 1 + 1 → Lib.compareBytes (xs.map bl)[i] (xs.map bl)[i + 1] < 0 := by
          intro e i hi hik
          by_cases h' : i + 1 < j + 1
          · exact hr i hi h'
          · obtain rfl : i = j := by omega
            rw [(hxy hlm).1, (hxy hlm).2]
            exact e
        clear hr hq1 hxy
        generalize xs[j] = x at c1 hcmp hq2 hq3
        generalize xs[j + 1] = y at c2 hcmp hq2 hq3
        generalize Lib.compareBytes (bl x) (bl y) = q at hcmp hq2 hq3
        unfold bl at hcmp
        rw [← ByteArray.toList_eq, ← ByteArray.toList_eq] at hcmp
        have b0 : (0 : Int) ≤ (j : Int) := by omega
        have b1 : (j : Int) < (xs.length : Int) := by omega
        have bw : IntKind.i64.wrap ((j : Int) + 1 - 1) = (j : Int) := (IntWalk.i64_in _ (by omega)).trans (by omega)
        have bw2 : IntKind.i64.wrap (j : Int) = (j : Int) := IntWalk.i64_in _ (by omega)
        have bl2 : (j : Int) + 1 < (xs.length : Int) := by omega
        have b01 : (0 : Int) ≤ (j : Int) + 1 := by omega
        have bp : (j : Int) + 1 > 0 := by omega
        have bq : ((j : Int) + 1).toNat = j + 1 := by omega
        have HQ2 := Lib.hid hq2
        have HQ3 := Lib.hid hq3
        clear hq2 hq3
        have c1' : wr.cell? ⟨b, o + j, none⟩ = some (.string x) := c1
        have c2' : wr.cell? ⟨b, o + (j + 1), none⟩ = some (.string y) := c2
        have d5 : decide (0 < (j : Int) + 1) = true := decide_eq_true (by omega)
        by_cases hq : q < 0
        · rw [decide_eq_true hq] at hcmp
          go_wp2_with (fail)
          go_quiet (fail)
          go_wp2
          go_roundw
          case rel => exact ⟨j + 1 + 1, by omega, by go_num, HQ3.out hq, below_drewN hb _⟩
          case measure => simp [intOf]; omega
        · rw [decide_eq_false hq] at hcmp
          have hf : rises (xs.map bl) = false := by
            cases e : rises (xs.map bl) with
            | false => rfl
            | true => exact absurd (HQ2.out e) hq
          have HF := Lib.hid hf
          clear hf
          go_wp2_with (fail)
          go_quiet (fail)
          go_wp2
          go_ret
          exact ⟨by rw [HF.out]; rfl, below_drewN hb _⟩
    · obtain rfl : k = xs.length := by omega
      have hlt' : ¬ ((xs.length : Nat) : Int) < (xs.length : Int) := by omega
      have hf : rises (xs.map bl) = true := rises_get.2 fun i hi => hr i hi (by simpa using hi)
      have HF := Lib.hid hf
      clear hf hr
      go_wp2
      go_ret
      exact ⟨by rw [HF.out]; rfl, hb⟩
end Go.Proofs.YtdpkodhfelnedaaDoor.Cod
