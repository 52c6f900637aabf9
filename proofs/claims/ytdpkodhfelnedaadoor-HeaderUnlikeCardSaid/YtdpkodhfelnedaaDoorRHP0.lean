/- ref05.Parse: its three blocks. -/
import Derived.Test.YtdpkodhfelnedaaDoorHP
import Derived.Test.YtdpkodhfelnedaaDoorRTake
import Derived.Test.YtdpkodhfelnedaaDoorRHChk
import Derived.Laws.OwnMore
namespace Go.Proofs.YtdpkodhfelnedaaDoor.Cod
open Go.RowKit
theorem inNum_short (m : Int) (st : St) : (inNum m st).2.1.length ≤ st.1.length := by
  unfold inNum
  split
  · exact Nat.le_refl _
  · split
    · simp
    · split
      · simp
      · simp only [List.length_drop]; omega
theorem inRaw_short (n : Nat) (st : St) : (inRaw n st).2.1.length ≤ st.1.length := by
  unfold inRaw
  split
  · exact Nat.le_refl _
  · split
    · simp
    · simp only [List.length_drop]; omega
theorem rdI_short (k : Nat) (st : St) : (rdI k st).2.1.length ≤ st.1.length := by
  induction k with
  | zero => exact Nat.le_refl _
  | succ k ih => exact Nat.le_trans (inRaw_short 32 _) ih
theorem rdI_zero (st : St) : rdI 0 st = ([], st) := rfl
def tc (l : List (List UInt8)) : List Value := l.map fun x => .string (S x)
theorem tc_len (l : List (List UInt8)) : (tc l).length = l.length := by simp [tc]
theorem texts_of_own {w : World} {B t : Nat} {v : Value} {l : List (List UInt8)} (h : w.ownsRow B t 1 v l.length (tc l)) : ∃ A c, v = .slice A l.length c ∧ TextsAt w A c (l.map S) := by
  rcases h.2 with ⟨rfl, h0⟩ | ⟨g, cap, cur, rfl, hb, hg, hcap, _⟩
  · exact ⟨none, 0, by rw [h0], by rw [List.length_map, h0]; exact Nat.le_refl _, fun h1 => by rw [List.length_map] at h1; omega⟩
  · refine ⟨some ⟨g, 0, none⟩, cap, rfl, by rw [List.length_map]; exact hcap, fun _ => ⟨g, 0, rfl, (Array.getElem?_eq_some_iff.1 hg).1, fun j x hx => ?_⟩⟩
    have h2 := h.cells (g := g) rfl j (.string x) (by
      unfold tc
      rw [List.getElem?_map] at hx ⊢
      cases hj : l[j]? with
      | none => rw [hj] at hx; cases hx
      | some y => rw [hj] at hx; simp only [Option.map_some, Option.some.injEq] at hx ⊢; rw [hx])
    rwa [Addr.add_mid] at h2
def hdrR (l : List UInt8) : Hdr := ⟨(p1 l).1, (p2 l).1, S (p3 l).1, (p4 l).1, (p5 l).1, (p7 l).1, (p8 l).1⟩
def rhres (l : List UInt8) : Hdr × Int := if (p8 l).2.2 ≠ 0 then (zeroH, ((p8 l).2.2 : Int)) else if (p8 l).2.1 ≠ [] then (zeroH, 3) else if (hdrR l).chk ≠ 0 then (zeroH, (hdrR l).chk) else (hdrR l, 0)
def RPost (w : World) (R : Hdr × Int) (e : Ending) (w' : World) : Prop := ∃ A c, e = .returned (.tuple #[R.1.val A c, .int .i64 R.2]) ∧ TextsAt w' A c (R.1.parents.map S) ∧ Below w.heap.size w w'
end Go.Proofs.YtdpkodhfelnedaaDoor.Cod
