/- Entries and numbers that came in, laid open. -/
import Derived.Test.YtgkiehefneamcaaTabE
import Derived.Deep.SlicePairs
import Derived.OpenShut
import Derived.ChangeSlices
import Derived.RowKit
import Derived.ProofKit
namespace Go.Proofs.Ytgkiehefneamcaa.Cod
open Go.RowKit Go.ChangeShapes Go.WideShapes Go.Deep
theorem add_next (ad : Addr) (m j : Nat) (hj : 0 < j) : ad.add (m + j) = ⟨(ad.add m).block, (ad.add m).off + j, none⟩ := by
  unfold Addr.add
  by_cases hm : m = 0
  · subst hm
    simp [Nat.ne_of_gt hj]
  · simp [hm, Nat.add_assoc]
theorem cell_lt {W : World} {a : Addr} {v : Value} (h : W.cell? a = some v) : a.block < W.heap.size := by
  rcases Nat.lt_or_ge a.block W.heap.size with k | k
  · exact k
  · simp [World.cell?, Array.getElem?_eq_none k] at h
theorem ents_of {W : World} {A : Option Addr} {len : Nat} {V0 V1 : Nat → Value} (hA : 0 < len → ∃ ad, A = some ad ∧ ad.block < W.heap.size ∧ ∀ i, i < len → W.cell? (ad.add (i * 2)) = some (V0 i) ∧ W.cell? (ad.add (i * 2 + 1)) = some (V1 i))
    (h0 : ∀ i, i < len → ∃ n, V0 i = .int .i64 n ∧ (Lit.int .i64 n).wf = true) (h1 : ∀ i, i < len → ∃ n, V1 i = .int .i64 n ∧ (Lit.int .i64 n).wf = true) :
    ∃ l : List (Int × Int), l.length = len ∧ Ents W A l := by
  obtain ⟨f0, hf0⟩ := choose_lt h0
  obtain ⟨f1, hf1⟩ := choose_lt h1
  refine ⟨(List.range len).map fun i => (f0 i, f1 i), by simp, ?_⟩
  intro i hi
  have hi' : i < len := by simpa using hi
  obtain ⟨ad, e, hb, hc⟩ := hA (by omega)
  obtain ⟨c0, c1⟩ := hc i hi'
  obtain ⟨e0, w0⟩ := hf0 i hi'
  obtain ⟨e1, _⟩ := hf1 i hi'
  refine ⟨ad, e, hb, ?_, ?_⟩
  · rw [c0, e0]; simp only [List.getElem_map, List.getElem_range]
  · rw [← add_next _ _ 1 (by omega), c1, e1]; simp only [List.getElem_map, List.getElem_range]
theorem open_ents {H : Type} {enc : TypeId × Value → H} {W : World} {A : Option Addr} {len cap : Nat} {d : DataW H} {p : List MemPlace} (h : DataW.Trod enc Try.prog W 0 (fun _ => true) true 40 (.slice A len cap) d p) :
    ∃ l : List (Int × Int), l.length = len ∧ Ents W A l ∧ len ≤ cap ∧ cap ≤ maxLen := by
  obtain ⟨fuel, hf⟩ := h
  rcases open_slice_pairs Try.underlying40 Try.underlying56 (by kernel_rfl) (by kernel_rfl) (by kernel_rfl) (by kernel_rfl) (by kernel_rfl) hf with ⟨hcs, _⟩ | ⟨a, l, c, m, n, V0, V1, D0, D1, P0, P1, hcs, _, hl, hm, hmm, _, hi⟩
  · simp [Value.cells] at hcs
    obtain ⟨rfl, rfl, rfl⟩ := hcs
    exact ⟨[], rfl, fun i hi => absurd hi (by simp), Nat.le_refl _, by unfold maxLen; omega⟩
  · simp [Value.cells] at hcs
    obtain ⟨rfl, rfl, rfl⟩ := hcs
    rw [if_pos rfl] at hmm
    subst hmm
    obtain ⟨L, hL, hS⟩ := ents_of (W := W) (A := some a) (len := len) (V0 := V0) (V1 := V1)
      (fun h0 => ⟨a, rfl, by have := cell_lt (hi 0 (by omega)).1; rwa [addb] at this, fun i h => ⟨(hi i (by omega)).1, (hi i (by omega)).2.1⟩⟩)
      (fun i h => by
        obtain ⟨n, e, _, w⟩ := DataW.trod_int Try.underlying3 (hi i (by omega)).2.2.1
        exact ⟨n, by simpa using e, w⟩)
      (fun i h => by
        obtain ⟨n, e, _, w⟩ := DataW.trod_int Try.underlying3 (hi i (by omega)).2.2.2
        exact ⟨n, by simpa using e, w⟩)
    exact ⟨L, hL, hS, hl, hm⟩
theorem open_nums {H : Type} {enc : TypeId × Value → H} {W : World} {A : Option Addr} {len cap : Nat} {d : DataW H} {p : List MemPlace} (h : DataW.Trod enc Try.prog W 0 (fun _ => true) true 41 (.slice A len cap) d p) :
    ∃ l : List Int, l.length = len ∧ IntsAt W A l ∧ len ≤ cap ∧ cap ≤ maxLen := by
  obtain ⟨fuel, hf⟩ := h
  rcases open_ints Try.underlying41 Try.underlying3 (by kernel_rfl) hf with ⟨hcs, _⟩ | ⟨a, l, c, zs, hcs, _, hl, hm, hz, _, hcell, hwf⟩
  · simp [Value.cells] at hcs
    obtain ⟨rfl, rfl, rfl⟩ := hcs
    exact ⟨[], rfl, fun i hi => absurd hi (by simp), Nat.le_refl _, by unfold maxLen; omega⟩
  · simp [Value.cells] at hcs
    obtain ⟨rfl, rfl, rfl⟩ := hcs
    rw [if_pos rfl] at hz
    refine ⟨zs.take len, by rw [List.length_take]; omega, fun i hi => ?_, hl, hm⟩
    have hiz : i < zs.length := by rw [List.length_take] at hi; omega
    have h1 := hcell i hiz
    have hlt := World.block_lt_of_cell? W _ h1
    rw [addb] at hlt
    refine ⟨a, rfl, hlt, ?_⟩
    rw [List.getElem_take, h1, List.getD_eq_getElem?_getD, List.getElem?_eq_getElem hiz]
    rfl
theorem nil_nums {H : Type} {enc : TypeId × Value → H} {W : World} {A : Option Addr} {len cap : Nat} {d : DataW H} {p : List MemPlace} (h : DataW.Trod enc Try.prog W 0 (fun _ => true) true 41 (.slice A len cap) d p) : A = none → len = 0 ∧ cap = 0 := by
  obtain ⟨fuel, hf⟩ := h
  rcases open_ints Try.underlying41 Try.underlying3 (by kernel_rfl) hf with ⟨hcs, _⟩ | ⟨a, l, c, zs, hcs, _, hl, hm, hz, _, hcell, hwf⟩
  · simp [Value.cells] at hcs
    exact fun _ => ⟨hcs.2.1, hcs.2.2⟩
  · simp [Value.cells] at hcs
    intro h
    rw [h] at hcs
    cases hcs.1
end Go.Proofs.Ytgkiehefneamcaa.Cod
