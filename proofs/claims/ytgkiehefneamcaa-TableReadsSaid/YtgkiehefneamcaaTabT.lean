/- ref06.Total, ref06.Quorum: the walks. -/
import Derived.Test.YtgkiehefneamcaaTabG
namespace Go.Proofs.Ytgkiehefneamcaa.Cod
open Go.RowKit
def tsum (x : List (Int × Int)) : Int := isum (x.map (·.2))
theorem tsum_snoc (x : List (Int × Int)) (p : Int × Int) : tsum (x ++ [p]) = tsum x + p.2 := by unfold tsum; rw [List.map_append]; exact isum_snoc _ _
def qsum (x : List (Int × Int)) (a : List Int) : Int := isum (x.map fun p => if p.1 ∈ a then p.2 else 0)
theorem qsum_snoc (x : List (Int × Int)) (a : List Int) (p : Int × Int) : qsum (x ++ [p]) a = qsum x a + (if p.1 ∈ a then p.2 else 0) := by unfold qsum; rw [List.map_append]; exact isum_snoc _ _
/-- powers that may be -/
def Fair (x : List (Int × Int)) : Prop := x.length ≤ 1000 ∧ ∀ p ∈ x, 0 ≤ p.2 ∧ p.2 ≤ 1099511627776
theorem Fair.take {x : List (Int × Int)} (h : Fair x) (n : Nat) : Fair (x.take n) := ⟨by have := h.1; rw [List.length_take]; omega, fun p hp => h.2 p (List.mem_of_mem_take hp)⟩
theorem Fair.sum {x : List (Int × Int)} (h : Fair x) : 0 ≤ tsum x ∧ tsum x ≤ 1099511627776000 := by
  have := isum_range (x.map (·.2)) fun y hy => by obtain ⟨p, hp, rfl⟩ := List.mem_map.1 hy; exact h.2 p hp
  rw [List.length_map] at this
  have := h.1
  unfold tsum
  omega
theorem Fair.qsum {x : List (Int × Int)} (h : Fair x) (a : List Int) : 0 ≤ qsum x a ∧ qsum x a ≤ 1099511627776000 := by
  have := isum_range (x.map fun p => if p.1 ∈ a then p.2 else 0) fun y hy => by
    obtain ⟨p, hp, rfl⟩ := List.mem_map.1 hy
    have := h.2 p hp
    split <;> omega
  rw [List.length_map] at this
  have := h.1
  unfold Cod.qsum
  omega
set_option maxHeartbeats 1600000 in
set_option maxRecDepth 100000 in
theorem R_total (A : Option Addr) (c : Nat) (x : List (Int × Int)) (w : World) (h : Ents w A x) (hx : Fair x) :
    Calls Try.prog 41 #[.slice A x.length c] w fun e w' => e = .returned (.int .i64 (tsum x)) ∧ Below w.heap.size w w' := by
  have hl := hx.1
  have HX := Lib.hid hx
  clear hx
  go_enter Try.func41, Try.ntmps41
  go_wp2
  go_loopw [3, 8] (fun s i wr => ∃ k : Nat, k ≤ x.length ∧ i = .int .i64 k ∧ s = .int .i64 (tsum (x.take k)) ∧ Below w.heap.size w wr) (fun _ i _ => x.length - (intOf i).toNat)
  case atStart => exact ⟨0, by omega, rfl, rfl, Below.refl _ _⟩
  case round =>
    obtain ⟨k, hk, rfl, rfl, hb⟩ := hrel
    by_cases hlt : k < x.length
    · obtain ⟨ad, rfl, hadl, h1, h2⟩ := (h.below hb) k hlt
      have hlti : (k : Int) < (x.length : Int) := by omega
      have htk : x.take (k + 1) = x.take k ++ [x[k]] := by rw [List.take_add_one, List.getElem?_eq_getElem hlt]; rfl
      have hs := (HX.out.take k).sum
      have hp := HX.out.2 x[k] (List.getElem_mem hlt)
      generalize x[k] = p at h1 h2 htk hp
      obtain ⟨p, n⟩ := p
      simp only at h1 h2 hp
      have hT : tsum (x.take (k + 1)) = tsum (x.take k) + n := by rw [htk, tsum_snoc]
      have HT := Lib.hid hT
      generalize tsum (x.take k) = S at hs HT
      have hw : wrap64 (S + n) = S + n := by unfold wrap64; omega
      clear htk hT
      go_wp2
      go_roundw
      case rel => exact ⟨k + 1, by omega, by go_num, by rw [HT.out], hb.alloc hb.size _⟩
      case measure => simp [intOf]; omega
    · obtain rfl : k = x.length := by omega
      rw [List.take_length]
      go_wp2
      go_ret
      exact ⟨rfl, hb⟩
theorem mem_snoc {a : List Int} {k : Nat} (h : k < a.length) (m : Int) : decide (m ∈ a.take (k + 1)) = (decide (m ∈ a.take k) || decide (a[k] = m)) := by
  have htk : a.take (k + 1) = a.take k ++ [a[k]] := by rw [List.take_add_one, List.getElem?_eq_getElem h]; rfl
  have e : (m = a[k]) = (a[k] = m) := propext ⟨Eq.symm, Eq.symm⟩
  rw [htk]
  simp only [List.mem_append, List.mem_singleton, Bool.decide_or, e]
set_option maxHeartbeats 1600000 in
set_option maxRecDepth 100000 in
theorem R_quorum (A A2 : Option Addr) (c c2 : Nat) (x : List (Int × Int)) (a : List Int) (w : World) (h : Ents w A x) (ha : IntsAt w A2 a) (hx : Fair x) (hal : a.length ≤ 1000) :
    Calls Try.prog 24 #[.slice A x.length c, .slice A2 a.length c2] w fun e w' => e = .returned (.bool (decide (3 * qsum x a > 2 * tsum x))) ∧ Below w.heap.size w w' := by
  have hl := hx.1
  have HX := Lib.hid hx
  have hRT := fun v hv => R_total A c x v hv hx
  have hts := hx.sum
  have hqs := hx.qsum a
  clear hx
  go_enter Try.func24, Try.ntmps24
  go_wp2
  go_loopw [5, 13] (fun s i wr => ∃ k : Nat, k ≤ x.length ∧ i = .int .i64 k ∧ s = .int .i64 (qsum (x.take k) a) ∧ Below w.heap.size w wr) (fun _ i _ => x.length - (intOf i).toNat)
  case atStart => exact ⟨0, by omega, rfl, rfl, Below.refl _ _⟩
  case round =>
    obtain ⟨k, hk, rfl, rfl, hb⟩ := hrel
    by_cases hlt : k < x.length
    · obtain ⟨ad, rfl, hadl, h1, h2⟩ := (h.below hb) k hlt
      have hlti : (k : Int) < (x.length : Int) := by omega
      have htk : x.take (k + 1) = x.take k ++ [x[k]] := by rw [List.take_add_one, List.getElem?_eq_getElem hlt]; rfl
      have hs := (HX.out.take k).qsum a
      have hp := HX.out.2 x[k] (List.getElem_mem hlt)
      generalize x[k] = p at h1 h2 htk hp
      obtain ⟨p, n⟩ := p
      simp only at h1 h2 hp
      have hT : qsum (x.take (k + 1)) a = qsum (x.take k) a + (if p ∈ a then n else 0) := by rw [htk, qsum_snoc]
      have HT := Lib.hid hT
      generalize qsum (x.take k) a = S at hs HT
      clear htk hT hRT hts hqs
      go_wp2
      have hbW := hb.alloc hb.size (.cells #[.int .i64 p, .int .i64 n] 56)
      have eW := heap_alloc_new wr (.cells #[.int .i64 p, .int .i64 n] 56)
      have e0 : (wr.alloc (.cells #[.int .i64 p, .int .i64 n] 56)).cell? ⟨wr.heap.size, 0, none⟩ = some (.int .i64 p) := by rw [cell_of_row _ _ 0 _ _ _ eW]; rfl
      have e1 : (wr.alloc (.cells #[.int .i64 p, .int .i64 n] 56)).cell? ⟨wr.heap.size, 1, none⟩ = some (.int .i64 n) := by rw [cell_of_row _ _ 1 _ _ _ eW]; rfl
      generalize wr.alloc (.cells #[.int .i64 p, .int .i64 n] 56) = W at hbW e0 e1 ⊢
      clear eW h1 h2
      go_loopw [8, 19] (fun s i v => ∃ j : Nat, j ≤ a.length ∧ i = .int .i64 j ∧ s = .bool (decide (p ∈ a.take j)) ∧ v = W) (fun _ i _ => a.length - (intOf i).toNat)
      case atStart => exact ⟨0, by omega, rfl, rfl, rfl⟩
      case round =>
        obtain ⟨j, hj, rfl, rfl, rfl⟩ := hrel
        by_cases hlt2 : j < a.length
        · obtain ⟨ad2, rfl, hadl2, g1⟩ := (ha.below hbW) j hlt2
          have hlti2 : (j : Int) < (a.length : Int) := by omega
          have hmem := mem_snoc hlt2 p
          generalize a[j] = y at g1 hmem
          have HM := Lib.hid hmem
          generalize decide (p ∈ a.take j) = b at HM
          clear hmem
          cases b
          · go_wp2
            go_roundw
            case rel => exact ⟨j + 1, by omega, by go_num, by rw [HM.out]; rfl, trivial⟩
            case measure => simp [intOf]; omega
          · go_wp2
            go_roundw
            case rel => exact ⟨j + 1, by omega, by go_num, by rw [HM.out]; rfl, trivial⟩
            case measure => simp [intOf]; omega
        · obtain rfl : j = a.length := by omega
          rw [List.take_length]
          by_cases hpa : p ∈ a
          · rw [if_pos hpa] at HT
            have hw : wrap64 (S + n) = S + n := by unfold wrap64; omega
            rw [decide_eq_true hpa]
            go_wp2
            go_roundw
            case rel => exact ⟨k + 1, by omega, by go_num, by rw [HT.out], hbW⟩
            case measure => simp [intOf]; omega
          · rw [if_neg hpa] at HT
            rw [decide_eq_false hpa]
            go_wp2
            go_roundw
            case rel => exact ⟨k + 1, by omega, by go_num, by rw [HT.out, Int.add_zero], hbW⟩
            case measure => simp [intOf]; omega
    · obtain rfl : k = x.length := by omega
      rw [List.take_length]
      obtain ⟨q, hq⟩ : ∃ q, qsum x a = q := ⟨_, rfl⟩
      obtain ⟨t, ht⟩ : ∃ t, tsum x = t := ⟨_, rfl⟩
      rw [hq] at hqs ⊢
      rw [ht] at hts
      simp only [ht] at hRT
      have HQ := Lib.hid hq
      have HT := Lib.hid ht
      clear hq ht
      have hw1 : wrap64 (3 * q) = 3 * q := by unfold wrap64; omega
      have hw2 : wrap64 (2 * t) = 2 * t := by unfold wrap64; omega
      go_wp2_with (go_at_call 41; (with_reducible refine (hRT _ (h.below hb)).mono ?_); rintro e w1 ⟨rfl, f1⟩)
      go_ret
      exact ⟨by rw [HQ.out, HT.out]; rfl, hb.trans (f1.mono hb.size)⟩
end Go.Proofs.Ytgkiehefneamcaa.Cod
