/- A slice of texts among a law's arguments. -/
import Derived.Test.YtgdpbnmhhbnkgaaDoorWalkDigestParts
import Derived.SliceStrings
namespace Go.Proofs.YtgdpbnmhhbnkgaaDoor.Cod
open Go.ChangeShapes Go.WideShapes Go.RowKit
theorem cell_in {w : World} {p : Addr} {v : Value} (h : w.cell? p = some v) : p.block < w.heap.size := by
  rcases Nat.lt_or_ge p.block w.heap.size with h1 | h1
  · exact h1
  · exfalso
    unfold World.cell? at h
    have h2 : w.heap[p.block]? = none := Array.getElem?_eq_none h1
    simp [h2] at h
theorem open_texts {H : Type} {enc : TypeId × Value → H} {P : Program} {w : World} {base : Nat} {spare : Nat → Bool} {held : Bool} {t e fuel len cap : Nat} {A : Option Addr} {x : DataW H × List MemPlace} (ht : P.underlying t = some (.slice e)) (he : P.underlying e = some .string) (hc : P.cellsOf e = 1)
    (h : DataW.trod enc P w base spare held fuel t [.slice A len cap] = some x) : ∃ ss : List ByteArray, ss.length = len ∧ len ≤ maxLen ∧ ArgTexts w A ss := by
  rcases open_strings ht he hc h with ⟨hcs, _⟩ | ⟨a, len', cap', ss, hcs, _, hl, hm, hz, _, hcell, hsz⟩
  · injection hcs with h1 _
    injection h1 with h1 h2 h3
    subst h2
    exact ⟨[], rfl, Nat.zero_le _, fun h => absurd h (Nat.lt_irrefl 0), fun s hs => by cases hs⟩
  · injection hcs with h1 _
    injection h1 with h1 h2 h3
    subst h1 h2 h3
    have hlen : len ≤ ss.length := by rw [hz]; split <;> omega
    refine ⟨ss.take len, by rw [List.length_take]; omega, by omega, fun h0 => ⟨a, rfl, ?_, fun j x hx => ?_⟩, fun s hs => hsz s (List.mem_of_mem_take hs)⟩
    · rw [List.length_take] at h0
      have := cell_in (hcell 0 (by omega))
      rwa [add_block] at this
    · have hj : j < len := by
        have := (List.getElem?_eq_some_iff.1 hx).1
        rw [List.length_take] at this
        omega
      rw [hcell j (by omega), List.getD_eq_getElem?_getD]
      rw [List.getElem?_take, if_pos hj] at hx
      rw [hx]
      rfl
end Go.Proofs.YtgdpbnmhhbnkgaaDoor.Cod
