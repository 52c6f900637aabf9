/- A slice of structs that came in, laid open. Plain: no program. -/
import Derived.Test.YtakefjdckacgpaaRowS
import Derived.Deep.Slices
import Derived.OpenShut
import Derived.ChangeArms
import Derived.ChangeSlices
import Derived.ProofKit
namespace Go.Proofs.Ytakefjdckacgpaa.Cod
open Go.RowKit Go.ChangeShapes Go.WideShapes Go.Deep
theorem radd_next (ad : Addr) (m j : Nat) : ad.add (m + j) = caddr (ad.add m) j := by
  cases j with
  | zero => rfl
  | succ j =>
    unfold Addr.add caddr
    by_cases hm : m = 0
    · subst hm
      simp
    · simp [hm, Nat.add_assoc]
section
variable {H : Type} {enc : TypeId × Value → H} {P : Program} {w : World} {base : Nat} {spare : Nat → Bool} {held : Bool}
theorem radd_add (ad : Addr) (m j : Nat) : (ad.add m).add j = ad.add (m + j) := by
  unfold Addr.add
  by_cases hm : m = 0 <;> by_cases hj : j = 0 <;> simp [hm, hj, Nat.add_assoc]
theorem rcell_lt {W : World} {a : Addr} {v : Value} (h : W.cell? a = some v) : a.block < W.heap.size := by
  rcases Nat.lt_or_ge a.block W.heap.size with k | k
  · exact k
  · simp [World.cell?, Array.getElem?_eq_none k] at h
theorem open_rows {α : Type} [Inhabited α] {f : α → List Value} {n : Nat} {good : α → Prop} {t e len cap : Nat} {A : Option Addr} {d : DataW H} {p : List MemPlace} (hn : 0 < n) (hf : ∀ a, (f a).length = n) (ht : P.underlying t = some (.slice e)) (ce : P.cellsOf e = n)
    (h : DataW.Trod enc P w base (fun _ => true) held t (.slice A len cap) d p)
    (dec : ∀ (m : Nat) (cs : List Value) x, DataW.trod enc P w base (fun _ => true) held m e cs = some x → cs.length = n → ∃ a, cs = f a ∧ good a) :
    ∃ l : List α, l.length = len ∧ len ≤ cap ∧ cap ≤ maxLen ∧ RowsAt f n w A l ∧ ∀ a ∈ l, good a := by
  obtain ⟨fuel, hfu⟩ := h
  rcases open_slice ht hfu with ⟨hcs, _⟩ | ⟨a, l, c, m, k, D, Pl, hcs, _, hl, hm, hmm, _, hi⟩
  · simp [Value.cells] at hcs
    obtain ⟨rfl, rfl, rfl⟩ := hcs
    exact ⟨[], rfl, Nat.le_refl _, by unfold maxLen; omega, rows_nil _ _, fun a ha => by cases ha⟩
  · simp [Value.cells] at hcs
    obtain ⟨rfl, rfl, rfl⟩ := hcs
    rw [if_pos rfl] at hmm
    subst hmm
    have each : ∀ i, i < len → ∃ b : α, good b ∧ ∀ j v, (f b)[j]? = some v → w.cell? (a.add (i * n + j)) = some v := fun i hlt => by
      obtain ⟨cs', h1, h2⟩ := hi i (by omega)
      rw [ce] at h1
      obtain ⟨_, hlen, hcell⟩ := World.cells?_some h1
      obtain ⟨b, rfl, hg⟩ := dec _ _ _ h2 hlen
      refine ⟨b, hg, fun j v hv => ?_⟩
      have hj : j < n := by rw [← hf b]; exact (List.getElem?_eq_some_iff.1 hv).1
      have := hcell j hj
      rw [radd_add] at this
      rw [this, hv]
    obtain ⟨q, hq⟩ := choose_lt each
    refine ⟨(List.range len).map q, by simp, hl, hm, fun i hilt => ?_, fun b hb => ?_⟩
    · have hi' : i < len := by simpa using hilt
      refine ⟨a, rfl, ?_, fun j v hv => ?_⟩
      · have h0 : 0 < (f (q i)).length := by rw [hf]; exact hn
        have := rcell_lt ((hq i hi').2 0 _ (List.getElem?_eq_getElem h0))
        rwa [rblock] at this
      · simp only [List.getElem_map, List.getElem_range] at hv
        rw [← radd_next]
        exact (hq i hi').2 j v hv
    · obtain ⟨i, hi', rfl⟩ := List.mem_map.1 hb
      exact (hq i (List.mem_range.1 hi')).1
/-- a struct's i-th field, of one cell, at the i-th place -/
theorem struct_field {fs : Array Field} {e m : Nat} {cs : List Value} {x : DataW H × List MemPlace} (he : P.underlying e = some (.struct fs)) (h : DataW.trod enc P w base spare held m e cs = some x) {i : Nat} {fd : Field} (hfd : fs[i]? = some fd) (ho : fd.offset = i) (hc : P.cellsOf fd.type = 1) (hl : i < cs.length) :
    ∃ v y n, cs[i]? = some v ∧ DataW.trod enc P w base spare held n fd.type [v] = some y := by
  obtain ⟨xs, n, _, _, _, hlen, hg⟩ := DataW.trod_struct he h
  have h1 := hg i fd hfd
  have hx : i < xs.length := by rw [hlen]; exact (Array.getElem?_eq_some_iff.1 hfd).1
  rw [ho, hc, List.drop_eq_getElem_cons hl] at h1
  simp only [List.take_succ_cons, List.take_zero] at h1
  exact ⟨cs[i], xs[i], n, List.getElem?_eq_getElem hl, by rw [h1]; exact List.getElem?_eq_getElem hx⟩
end
end Go.Proofs.Ytakefjdckacgpaa.Cod
