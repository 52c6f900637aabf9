/- Slices of structs (rows of n cells each): what is read of them; a row of one's own. Plain: no program. -/
import Derived.WalkKit
import Derived.Lib.Hide
import Derived.Below
import Derived.Laws.AppendOwn
import Derived.OwnWalk
import Derived.Deep.MidRow
import Derived.Laws.Rows
namespace Go.Proofs.Ytakefjdckacgpaa.Cod
open Go.RowKit
section
variable {α : Type} {f : α → List Value} {n : Nat}
/-- the j-th cell behind an address -/
def caddr (a : Addr) : Nat → Addr
  | 0 => a
  | j + 1 => ⟨a.block, a.off + (j + 1), none⟩
theorem caddr_block (a : Addr) (j : Nat) : (caddr a j).block = a.block := by cases j <;> rfl
theorem caddr_own (g o j : Nat) : caddr ⟨g, o, none⟩ j = ⟨g, o + j, none⟩ := by cases j <;> rfl
/-- elements in memory, n cells each -/
def RowsAt (f : α → List Value) (n : Nat) (w : World) (A : Option Addr) (l : List α) : Prop :=
  ∀ i (h : i < l.length), ∃ ad : Addr, A = some ad ∧ ad.block < w.heap.size ∧ ∀ (j : Nat) v, (f l[i])[j]? = some v → w.cell? (caddr (ad.add (i * n)) j) = some v
theorem rblock (a : Addr) (j : Nat) : (a.add j).block = a.block := by unfold Addr.add; split <;> rfl
theorem RowsAt.below {w w1 : World} {A : Option Addr} {l : List α} {B : Nat} (h : RowsAt f n w A l) (hb : Below B w w1) (hB : B = w.heap.size) : RowsAt f n w1 A l := by
  intro i hi
  obtain ⟨ad, e, hl, h1⟩ := h i hi
  subst hB
  exact ⟨ad, e, Nat.lt_of_lt_of_le hl hb.size, fun j v hv => (hb.cell (p := caddr (ad.add (i * n)) j) (by rw [caddr_block, rblock]; exact hl)).trans (h1 j v hv)⟩
/-- where the block lies as it lay -/
theorem RowsAt.of_block {w w1 : World} {ad : Addr} {l : List α} (h : RowsAt f n w (some ad) l) (hb : w1.heap[ad.block]? = w.heap[ad.block]?) (hs : w.heap.size ≤ w1.heap.size) : RowsAt f n w1 (some ad) l := by
  intro i hi
  obtain ⟨ad', e, hl, h1⟩ := h i hi
  obtain rfl : ad' = ad := by injection e with e; exact e.symm
  refine ⟨ad', rfl, Nat.lt_of_lt_of_le hl hs, fun j v hv => ?_⟩
  rw [World.cell?_of_block (w := w) (a := caddr (ad'.add (i * n)) j) (by rw [caddr_block, rblock]; exact hb)]
  exact h1 j v hv
theorem RowsAt.take {w : World} {A : Option Addr} {l : List α} (h : RowsAt f n w A l) (m : Nat) : RowsAt f n w A (l.take m) := by
  intro i hi
  have hl : i < l.length := by rw [List.length_take] at hi; omega
  obtain ⟨ad, e, h0, h1⟩ := h i hl
  rw [List.getElem_take]
  exact ⟨ad, e, h0, h1⟩
theorem rows_nil (w : World) (A : Option Addr) : RowsAt f n w A [] := fun i hi => absurd hi (by simp)
theorem flat_len (hf : ∀ a, (f a).length = n) (l : List α) : (l.flatMap f).length = l.length * n := by
  induction l with
  | nil => simp
  | cons a l ih => rw [List.flatMap_cons, List.length_append, ih, hf, List.length_cons, Nat.add_mul]; omega
theorem flat_get (hf : ∀ a, (f a).length = n) : ∀ (l : List α) (i : Nat) (h : i < l.length) (j : Nat) v, (f l[i])[j]? = some v → (l.flatMap f)[i * n + j]? = some v
  | [], i, h, _, _, _ => absurd h (by simp)
  | a :: l, 0, _, j, v, hv => by
    have hj : j < (f a).length := (List.getElem?_eq_some_iff.1 hv).1
    rw [List.flatMap_cons, Nat.zero_mul, Nat.zero_add, List.getElem?_append_left hj]
    exact hv
  | a :: l, i + 1, h, j, v, hv => by
    rw [List.flatMap_cons, List.getElem?_append_right (by rw [hf, Nat.add_mul]; omega), hf, show (i + 1) * n + j - n = i * n + j by rw [Nat.add_mul]; omega]
    exact flat_get hf l i (by simpa using h) j v hv
theorem rows_of_own (hf : ∀ a, (f a).length = n) {w : World} {B t : Nat} {v : Value} {l : List α} (h : w.ownsRow B t n v l.length (l.flatMap f)) : ∃ A c, v = .slice A l.length c ∧ l.length ≤ c ∧ (∀ ad, A = some ad → B ≤ ad.block) ∧ RowsAt f n w A l := by
  rcases h.2 with ⟨rfl, h0⟩ | ⟨g, cap, cur, rfl, hb, hg, hc⟩
  · exact ⟨none, 0, by rw [h0], by omega, (fun ad e => by cases e), fun i hi => absurd hi (by omega)⟩
  · have hlt : g < w.heap.size := (Array.getElem?_eq_some_iff.1 hg).1
    have hcap : l.length ≤ cap := by omega
    refine ⟨_, cap, rfl, hcap, (fun ad e => by injection e with e; subst e; exact hb), fun i hi => ⟨⟨g, 0, none⟩, rfl, hlt, fun j u hu => ?_⟩⟩
    have h1 := h.cells (g := g) rfl _ _ (flat_get hf l i hi j u hu)
    rw [Addr.add_mid] at h1 ⊢
    rw [caddr_own]
    simpa [Nat.add_assoc] using h1
theorem rows_block (hf : ∀ a, (f a).length = n) {w : World} {g : Nat} {l : List α} {t : TypeId} (h : w.heap[g]? = some (.cells (l.flatMap f).toArray t (0, 0))) : RowsAt f n w (some ⟨g, 0, none⟩) l := by
  intro i hi
  refine ⟨_, rfl, (Array.getElem?_eq_some_iff.1 h).1, fun j u hu => ?_⟩
  have := flat_get hf l i hi j u hu
  rw [Addr.add_mid, Nat.zero_add, caddr_own, cell_of_row _ _ _ _ _ _ h]
  simpa using this
end
end Go.Proofs.Ytakefjdckacgpaa.Cod
