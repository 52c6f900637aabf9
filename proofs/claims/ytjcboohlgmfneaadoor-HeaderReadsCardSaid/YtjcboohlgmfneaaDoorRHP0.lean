/- ref05.Parse: its three blocks. -/
import Derived.Test.YtjcboohlgmfneaaDoorHP
import Derived.Test.YtjcboohlgmfneaaDoorRTake
import Derived.Test.YtjcboohlgmfneaaDoorRHChk
import Derived.Laws.OwnMore
namespace Go.Proofs.YtjcboohlgmfneaaDoor.Cod
open Go.RowKit
theorem inNum_short (m : Int) (st : St) : (inNum m st).2.1.length ≤ st.1.length := by
  unfold inNum
  split
  · exact Nat.le_refl _
  · split
    · simp
    · split
      · simp
      · simp only [List.length_drop]; omega
theorem inRaw_short (n : Nat) (st : St) : (inRaw n st).2.1.length ≤ st.1.length := by
  unfold inRaw
  split
  · exact Nat.le_refl _
  · split
    · simp
    · simp only [List.length_drop]; omega
theorem rdI_short (k : Nat) (st : St) : (rdI k st).2.1.length ≤ st.1.length := by
  induction k with
  | zero => exact Nat.le_refl _
  | succ k ih => exact Nat.le_trans (inRaw_short 32 _) ih
theorem tnum_st (st : St) (hl : st.1.length ≤ 140737488351232) (m : Int) (w : World) : Calls Tryd.prog 23 #[.agg #[.string (S st.1), .int .i64 st.2], .int .i64 m] w fun f w' => f = .returned (.tuple #[.agg #[.string (S (inNum m st).2.1), .int .i64 (inNum m st).2.2], .int .i64 (inNum m st).1]) ∧ Below w.heap.size w w' := by
  have h := R_takenum (S st.1) (by rw [S_size]; exact hl) st.2 m w
  rw [bl_S] at h
  exact h
theorem traw_st (st : St) (n : Nat) (w : World) : Calls Tryd.prog 24 #[.agg #[.string (S st.1), .int .i64 st.2], .int .i64 n] w fun f w' => f = .returned (.tuple #[.agg #[.string (S (inRaw n st).2.1), .int .i64 (inRaw n st).2.2], .string (S (inRaw n st).1)]) ∧ Below w.heap.size w w' := by
  have h := R_takeraw (S st.1) st.2 n w
  rw [bl_S] at h
  exact h
/-- the three blocks: what is answered, the header, what is left -/
def PT (w : World) (Hb Tb : Nat) (hc : Array Value) (s : Value) (e : Value) (v : World) : Prop :=
  v.heap[Hb]? = some (.cells hc 33 (0, 0)) ∧ v.heap[Tb]? = some (.cells #[s, e] 54 (0, 0)) ∧ v.heap[w.heap.size]? = some (.cells #[.int .i64 0, .int .i64 0, .string ⟨#[]⟩, .int .i64 0, .int .u64 0, .slice none 0 0, .int .i64 0] 33 (0, 0)) ∧ Below w.heap.size w v ∧ w.heap.size < Hb ∧ Hb < Tb
theorem PT.lt {w v : World} {Hb Tb : Nat} {hc : Array Value} {s e : Value} (h : PT w Hb Tb hc s e v) : Tb < v.heap.size := (Array.getElem?_eq_some_iff.1 h.2.1).1
theorem PT.call {w v v' : World} {Hb Tb : Nat} {hc : Array Value} {s e : Value} (h : PT w Hb Tb hc s e v) (f : Below v.heap.size v v') : PT w Hb Tb hc s e v' := by
  have hl := h.lt
  obtain ⟨h1, h2, h3, h4, h5, h6⟩ := h
  exact ⟨(f.block _ (by omega)).trans h1, (f.block _ (by omega)).trans h2, (f.block _ (by omega)).trans h3, h4.trans (f.mono h4.size), h5, h6⟩
theorem PT.set0 {w v : World} {Hb Tb : Nat} {hc : Array Value} {s e : Value} (h : PT w Hb Tb hc s e v) (x : Value) : PT w Hb Tb hc x e (v.setCell ⟨Tb, 0, none⟩ x) := by
  obtain ⟨h1, h2, h3, h4, h5, h6⟩ := h
  exact ⟨by rw [heap_setCell_other _ _ _ _ (by simp; omega)]; exact h1, by rw [heap_setCell_same _ _ _ _ _ _ h2]; rfl, by rw [heap_setCell_other _ _ _ _ (by simp; omega)]; exact h3, h4.setCell (p := ⟨Tb, 0, none⟩) (by simp; omega) _, h5, h6⟩
theorem PT.set1 {w v : World} {Hb Tb : Nat} {hc : Array Value} {s e : Value} (h : PT w Hb Tb hc s e v) (x : Value) : PT w Hb Tb hc s x (v.setCell ⟨Tb, 1, none⟩ x) := by
  obtain ⟨h1, h2, h3, h4, h5, h6⟩ := h
  exact ⟨by rw [heap_setCell_other _ _ _ _ (by simp; omega)]; exact h1, by rw [heap_setCell_same _ _ _ _ _ _ h2]; rfl, by rw [heap_setCell_other _ _ _ _ (by simp; omega)]; exact h3, h4.setCell (p := ⟨Tb, 1, none⟩) (by simp; omega) _, h5, h6⟩
theorem PT.setH {w v : World} {Hb Tb : Nat} {hc : Array Value} {s e : Value} (h : PT w Hb Tb hc s e v) (i : Nat) (x : Value) : PT w Hb Tb (hc.setIfInBounds i x) s e (v.setCell ⟨Hb, i, none⟩ x) := by
  obtain ⟨h1, h2, h3, h4, h5, h6⟩ := h
  exact ⟨heap_setCell_same _ _ _ _ _ _ h1, by rw [heap_setCell_other _ _ _ _ (by simp; omega)]; exact h2, by rw [heap_setCell_other _ _ _ _ (by simp; omega)]; exact h3, h4.setCell (p := ⟨Hb, i, none⟩) (by simp; omega) _, h5, h6⟩
theorem PT.t0 {w v : World} {Hb Tb : Nat} {hc : Array Value} {s e : Value} (h : PT w Hb Tb hc s e v) : v.cell? ⟨Tb, 0, none⟩ = some s := by rw [cell_of_row _ _ _ _ _ _ h.2.1]; rfl
theorem PT.t1 {w v : World} {Hb Tb : Nat} {hc : Array Value} {s e : Value} (h : PT w Hb Tb hc s e v) : v.cell? ⟨Tb, 1, none⟩ = some e := by rw [cell_of_row _ _ _ _ _ _ h.2.1]; rfl
theorem PT.tf {w v : World} {Hb Tb : Nat} {hc : Array Value} {s e : Value} (h : PT w Hb Tb hc s e v) (i : Nat) : v.frozen? ⟨Tb, i, none⟩ = false := frozen_of_row _ _ _ _ _ h.2.1
theorem PT.hc {w v : World} {Hb Tb : Nat} {hc : Array Value} {s e : Value} (h : PT w Hb Tb hc s e v) (i : Nat) : v.cell? ⟨Hb, i, none⟩ = hc[i]? := cell_of_row _ _ _ _ _ _ h.1
theorem PT.hf {w v : World} {Hb Tb : Nat} {hc : Array Value} {s e : Value} (h : PT w Hb Tb hc s e v) (i : Nat) : v.frozen? ⟨Hb, i, none⟩ = false := frozen_of_row _ _ _ _ _ h.1
theorem rdI_zero (st : St) : rdI 0 st = ([], st) := rfl
def tc (l : List (List UInt8)) : List Value := l.map fun x => .string (S x)
theorem tc_len (l : List (List UInt8)) : (tc l).length = l.length := by simp [tc]
theorem texts_of_own {w : World} {B t : Nat} {v : Value} {l : List (List UInt8)} (h : w.ownsRow B t 1 v l.length (tc l)) : ∃ A c, v = .slice A l.length c ∧ TextsAt w A c (l.map S) := by
  rcases h.2 with ⟨rfl, h0⟩ | ⟨g, cap, cur, rfl, hb, hg, hcap, _⟩
  · exact ⟨none, 0, by rw [h0], by rw [List.length_map, h0]; exact Nat.le_refl _, fun h1 => by rw [List.length_map] at h1; omega⟩
  · refine ⟨some ⟨g, 0, none⟩, cap, rfl, by rw [List.length_map]; exact hcap, fun _ => ⟨g, 0, rfl, (Array.getElem?_eq_some_iff.1 hg).1, fun j x hx => ?_⟩⟩
    have h2 := h.cells (g := g) rfl j (.string x) (by
      unfold tc
      rw [List.getElem?_map] at hx ⊢
      cases hj : l[j]? with
      | none => rw [hj] at hx; cases hx
      | some y => rw [hj] at hx; simp only [Option.map_some, Option.some.injEq] at hx ⊢; rw [hx])
    rwa [Addr.add_mid] at h2
def hdrR (l : List UInt8) : Hdr := ⟨(p1 l).1, (p2 l).1, S (p3 l).1, (p4 l).1, (p5 l).1, (p7 l).1, (p8 l).1⟩
def rhres (l : List UInt8) : Hdr × Int := if (p8 l).2.2 ≠ 0 then (zeroH, ((p8 l).2.2 : Int)) else if (p8 l).2.1 ≠ [] then (zeroH, 3) else if (hdrR l).chk ≠ 0 then (zeroH, (hdrR l).chk) else (hdrR l, 0)
def RPost (w : World) (R : Hdr × Int) (e : Ending) (w' : World) : Prop := ∃ A c, e = .returned (.tuple #[R.1.val A c, .int .i64 R.2]) ∧ TextsAt w' A c (R.1.parents.map S) ∧ Below w.heap.size w w'
end Go.Proofs.YtjcboohlgmfneaaDoor.Cod
