/- CoxswainWeights: its arguments, opened. -/
import Derived.Test.YtclmdidgioggdaaGainSum
import Derived.Deep.SlicePairs
import Derived.OpenShut
import Derived.ChangeSlices
import Derived.RowKit
import Derived.ProofKit
namespace Go.Proofs.Ytclmdidgioggdaa.Num
open Go.RowKit Go.ChangeShapes Go.WideShapes Go.Deep
theorem steps_of {W : World} {A : Option Addr} {len : Nat} {V0 V1 : Nat → Value} (hA : 0 < len → ∃ ad, A = some ad ∧ ad.block < W.heap.size ∧ ∀ i, i < len → W.cell? (ad.add (i * 2)) = some (V0 i) ∧ W.cell? (ad.add (i * 2 + 1)) = some (V1 i))
    (h0 : ∀ i, i < len → ∃ n, V0 i = .int .u64 n ∧ (Lit.int .u64 n).wf = true) (h1 : ∀ i, i < len → ∃ n, V1 i = .int .i64 n ∧ (Lit.int .i64 n).wf = true) :
    ∃ l : List (Nat × Int), l.length = len ∧ Steps W A l ∧ wide l := by
  obtain ⟨f0, hf0⟩ := choose_lt h0
  obtain ⟨f1, hf1⟩ := choose_lt h1
  refine ⟨(List.range len).map fun i => ((f0 i).toNat, f1 i), by simp, ?_, ?_⟩
  · intro i hi
    have hi' : i < len := by simpa using hi
    obtain ⟨ad, e, hb, hc⟩ := hA (by omega)
    obtain ⟨c0, c1⟩ := hc i hi'
    obtain ⟨e0, w0⟩ := hf0 i hi'
    obtain ⟨e1, _⟩ := hf1 i hi'
    have b0 := Go.bounds_u64 w0
    refine ⟨ad, e, hb, ?_, ?_⟩
    · rw [c0, e0]; simp only [List.getElem_map, List.getElem_range]; congr 2; omega
    · rw [← Go.Proofs.YtclmdidgioggdaaW.PrintWords.add_field _ _ 1 (by omega), c1, e1]; simp only [List.getElem_map, List.getElem_range]
  · intro p hp
    obtain ⟨i, hi, rfl⟩ := List.mem_map.1 hp
    have hi' : i < len := by simpa using hi
    have b0 := Go.bounds_u64 (hf0 i hi').2
    have b1 := Go.bounds_i64 (hf1 i hi').2
    exact ⟨by simp only; omega, b1.1, b1.2⟩
theorem cell_lt {W : World} {a : Addr} {v : Value} (h : W.cell? a = some v) : a.block < W.heap.size := by
  rcases Nat.lt_or_ge a.block W.heap.size with k | k
  · exact k
  · simp [World.cell?, Array.getElem?_eq_none k] at h
theorem open_steps {H : Type} {enc : TypeId × Value → H} {W : World} {A : Option Addr} {len cap : Nat} {d : DataW H} {p : List MemPlace} (h : DataW.Trod enc Try.prog W 0 (fun _ => true) true 50 (.slice A len cap) d p) :
    ∃ l : List (Nat × Int), l.length = len ∧ Steps W A l ∧ wide l ∧ len ≤ cap ∧ cap ≤ maxLen := by
  obtain ⟨fuel, hf⟩ := h
  rcases open_slice_pairs Try.underlying50 Try.underlying53 (by kernel_rfl) (by kernel_rfl) (by kernel_rfl) (by kernel_rfl) (by kernel_rfl) hf with ⟨hcs, _⟩ | ⟨a, l, c, m, n, V0, V1, D0, D1, P0, P1, hcs, _, hl, hm, hmm, _, hi⟩
  · simp [Value.cells] at hcs
    obtain ⟨rfl, rfl, rfl⟩ := hcs
    exact ⟨[], rfl, fun i hi => absurd hi (by simp), fun p hp => by simp at hp, Nat.le_refl _, by unfold maxLen; omega⟩
  · simp [Value.cells] at hcs
    obtain ⟨rfl, rfl, rfl⟩ := hcs
    rw [if_pos rfl] at hmm
    subst hmm
    obtain ⟨L, hL, hS, hw⟩ := steps_of (W := W) (A := some a) (len := len) (V0 := V0) (V1 := V1)
      (fun h0 => ⟨a, rfl, by have := cell_lt (hi 0 (by omega)).1; rwa [add_block] at this, fun i h => ⟨(hi i (by omega)).1, (hi i (by omega)).2.1⟩⟩)
      (fun i h => by
        obtain ⟨n, e, _, w⟩ := DataW.trod_int Try.underlying22 (hi i (by omega)).2.2.1
        exact ⟨n, by simpa using e, w⟩)
      (fun i h => by
        obtain ⟨n, e, _, w⟩ := DataW.trod_int Try.underlying3 (hi i (by omega)).2.2.2
        exact ⟨n, by simpa using e, w⟩)
    exact ⟨L, hL, hS, hw, hl, hm⟩
end Go.Proofs.Ytclmdidgioggdaa.Num
namespace Go.Proofs.Ytclmdidgioggdaa.Num
open Go.ChangeShapes Go.WideShapes Go.RowKit Go.Deep
theorem nil_steps {H : Type} {enc : TypeId × Value → H} {W : World} {A : Option Addr} {len cap : Nat} {d : DataW H} {p : List MemPlace} (h : DataW.Trod enc Try.prog W 0 (fun _ => true) true 50 (.slice A len cap) d p) : A = none → len = 0 ∧ cap = 0 := by
  obtain ⟨fuel, hf⟩ := h
  rcases open_slice_pairs Try.underlying50 Try.underlying53 (by kernel_rfl) (by kernel_rfl) (by kernel_rfl) (by kernel_rfl) (by kernel_rfl) hf with ⟨hcs, _⟩ | ⟨a, l, c, m, n, V0, V1, D0, D1, P0, P1, hcs, _, hl, hm, hmm, _, hi⟩
  · simp [Value.cells] at hcs
    exact fun _ => ⟨hcs.2.1, hcs.2.2⟩
  · simp [Value.cells] at hcs
    intro h
    rw [h] at hcs
    cases hcs.1
theorem open_picks {H : Type} {enc : TypeId × Value → H} {W : World} {A : Option Addr} {len cap : Nat} {d : DataW H} {p : List MemPlace} (h : DataW.Trod enc Try.prog W 0 (fun _ => true) true 32 (.slice A len cap) d p) :
    (∀ i, i < len → ∃ ad z, A = some ad ∧ ad.block < W.heap.size ∧ W.cell? (ad.add i) = some (.int .i64 z) ∧ -9223372036854775808 ≤ z ∧ z ≤ 9223372036854775807) ∧ len ≤ 9223372036854775807 := by
  obtain ⟨fuel, hf⟩ := h
  rcases open_ints Try.underlying32 Try.underlying3 (by kernel_rfl) hf with ⟨hcs, _⟩ | ⟨a, l, c, zs, hcs, _, hl, hm, hz, _, hcell, hwf⟩
  · simp [Value.cells] at hcs
    obtain ⟨rfl, rfl, rfl⟩ := hcs
    exact ⟨fun i hi => absurd hi (by omega), by omega⟩
  · simp [Value.cells] at hcs
    obtain ⟨rfl, rfl, rfl⟩ := hcs
    rw [if_pos rfl] at hz
    unfold maxLen at hm
    refine ⟨fun i hi => ?_, by omega⟩
    have hiz : i < zs.length := by omega
    have h1 := hcell i hiz
    have hm2 : zs.getD i 0 ∈ zs := by
      rw [List.getD_eq_getElem?_getD, List.getElem?_eq_getElem hiz]
      exact List.getElem_mem hiz
    have hb := bounds_i64 (hwf _ hm2)
    have hlt := World.block_lt_of_cell? W _ h1
    rw [add_block] at hlt
    exact ⟨a, _, rfl, hlt, h1, by omega, by omega⟩
end Go.Proofs.Ytclmdidgioggdaa.Num
