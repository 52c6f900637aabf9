/- A document's header among a law's arguments, laid open. -/
import Derived.Test.YtdpkodhfelnedaaDoorHFew2
import Derived.SliceStrings
import Derived.Lib.SmallJoins
import Derived.OpenShut
import Derived.ChangeArms
namespace Go.Proofs.YtdpkodhfelnedaaDoor.Cod
open Go.ChangeShapes Go.WideShapes Go.RowKit Go.Joins Go.Deep
section
variable {H : Type} {enc : TypeId × Value → H} {P : Program} {w : World} {base : Nat} {spare : Nat → Bool} {held : Bool}
theorem open_agg7 {r : Reach} {b0 : Nat} {t : TypeId} {f0 f1 f2 f3 f4 f5 f6 : Field} {v : Value} {d : DataW H} {p : List MemPlace} (hs : P.underlying t = some (.struct #[f0, f1, f2, f3, f4, f5, f6])) (hone : oneCellFields P #[f0, f1, f2, f3, f4, f5, f6] = true) (hC : P.cellsOf t = 7)
    (hv : Value.okWide P w r b0 t v) (h : DataW.Trod enc P w base spare held t v d p) :
    ∃ (v0 v1 v2 v3 v4 v5 v6 : Value) (y0 y1 y2 y3 y4 y5 y6 : DataW H × List MemPlace) (n : Nat), v = .agg #[v0, v1, v2, v3, v4, v5, v6] ∧ d = .agg [y0.1, y1.1, y2.1, y3.1, y4.1, y5.1, y6.1] ∧
      DataW.trod enc P w base spare held n f0.type [v0] = some y0 ∧ DataW.trod enc P w base spare held n f1.type [v1] = some y1 ∧ DataW.trod enc P w base spare held n f2.type [v2] = some y2 ∧ DataW.trod enc P w base spare held n f3.type [v3] = some y3 ∧ DataW.trod enc P w base spare held n f4.type [v4] = some y4 ∧ DataW.trod enc P w base spare held n f5.type [v5] = some y5 ∧ DataW.trod enc P w base spare held n f6.type [v6] = some y6 := by
  obtain ⟨cs, rfl, hsz⟩ := okWide_struct hs hv
  obtain ⟨l⟩ := cs
  match l, hsz.trans hC with
  | [c0, c1, c2, c3, c4, c5, c6], _ =>
    obtain ⟨fuel, hf⟩ := h
    obtain ⟨xs, n, _, hx, _, hlen, hg⟩ := DataW.trod_struct hs hf
    obtain ⟨o0, k0⟩ := hone_of hone 0 f0 rfl
    obtain ⟨o1, k1⟩ := hone_of hone 1 f1 rfl
    obtain ⟨o2, k2⟩ := hone_of hone 2 f2 rfl
    obtain ⟨o3, k3⟩ := hone_of hone 3 f3 rfl
    obtain ⟨o4, k4⟩ := hone_of hone 4 f4 rfl
    obtain ⟨o5, k5⟩ := hone_of hone 5 f5 rfl
    obtain ⟨o6, k6⟩ := hone_of hone 6 f6 rfl
    match xs, hlen with
    | [y0, y1, y2, y3, y4, y5, y6], _ =>
      simp only [Prod.mk.injEq] at hx
      exact ⟨c0, c1, c2, c3, c4, c5, c6, y0, y1, y2, y3, y4, y5, y6, n, rfl, by simpa using hx.1, by simpa [Value.cells, o0, k0] using hg 0 f0 rfl, by simpa [Value.cells, o1, k1] using hg 1 f1 rfl, by simpa [Value.cells, o2, k2] using hg 2 f2 rfl, by simpa [Value.cells, o3, k3] using hg 3 f3 rfl, by simpa [Value.cells, o4, k4] using hg 4 f4 rfl, by simpa [Value.cells, o5, k5] using hg 5 f5 rfl, by simpa [Value.cells, o6, k6] using hg 6 f6 rfl⟩
end
theorem cell_in' {w : World} {p : Addr} {v : Value} (h : w.cell? p = some v) : p.block < w.heap.size := by
  rcases Nat.lt_or_ge p.block w.heap.size with h1 | h1
  · exact h1
  · exfalso
    unfold World.cell? at h
    have h2 : w.heap[p.block]? = none := Array.getElem?_eq_none h1
    simp [h2] at h
/-- a field that is a slice of texts -/
theorem open_argt {H : Type} {enc : TypeId × Value → H} {P : Program} {w : World} {base : Nat} {held : Bool} {t e fuel : Nat} {v : Value} {x : DataW H × List MemPlace} (ht : P.underlying t = some (.slice e)) (he : P.underlying e = some .string) (hc : P.cellsOf e = 1)
    (h : DataW.trod enc P w base (fun _ => true) held fuel t [v] = some x) : ∃ (A : Option Addr) (c : Nat) (ss : List ByteArray), v = .slice A ss.length c ∧ ss.length ≤ maxLen ∧ ArgT w A ss ∧ ∀ s ∈ ss, s.size ≤ maxLen := by
  rcases open_strings ht he hc h with ⟨hcs, _⟩ | ⟨a, len, cap, ss, hcs, _, hl, hm, hz, _, hcell, hsz⟩
  · injection hcs with h1 _
    subst h1
    exact ⟨none, 0, [], rfl, Nat.zero_le _, fun h => absurd h (Nat.lt_irrefl 0), fun s hs => by cases hs⟩
  · injection hcs with h1 _
    subst h1
    rw [if_pos rfl] at hz
    have hl2 : (ss.take len).length = len := by rw [List.length_take]; omega
    refine ⟨some a, cap, ss.take len, by rw [hl2], by omega, fun h0 => ⟨a, rfl, ?_, fun j x hx => ?_⟩, fun s hs => hsz s (List.mem_of_mem_take hs)⟩
    · have := cell_in' (hcell 0 (by omega))
      rwa [addB] at this
    · have hj : j < len := by
        have := (List.getElem?_eq_some_iff.1 hx).1
        omega
      rw [hcell j (by omega), List.getD_eq_getElem?_getD]
      rw [List.getElem?_take, if_pos hj] at hx
      rw [hx]
      rfl
/-- a document's header -/
theorem open_rhdr {H : Type} {enc : TypeId × Value → H} {w : World} {base : Nat} {held : Bool} {r : Reach} {b0 : Nat} {v : Value} {d : DataW H} {p : List MemPlace}
    (hv : Value.okWide Tryd.prog w r b0 25 v) (h : DataW.Trod enc Tryd.prog w base (fun _ => true) held 25 v d p) :
    ∃ (hh mi : Int) (ti : ByteArray) (wi : Int) (po : Nat) (A : Option Addr) (c : Nat) (sa : Int) (xs : List ByteArray) (d0 d1 d3 d4 d5 d6 : DataW H), v = rhv hh mi ti wi po A xs.length c sa ∧ d = .agg [d0, d1, .lit (.string ti.data.toList), d3, d4, d5, d6] ∧ ArgT w A xs ∧ xs.length ≤ maxLen := by
  obtain ⟨v0, v1, v2, v3, v4, v5, v6, y0, y1, y2, y3, y4, y5, y6, n, rfl, rfl, t0, t1, t2, t3, t4, t5, t6⟩ := open_agg7 Tryd.underlying25 (by kernel_rfl) (by kernel_rfl) hv h
  obtain ⟨hh, e0, _, _⟩ := DataW.trod_int Tryd.underlying3 t0
  obtain ⟨mi, e1, _, _⟩ := DataW.trod_int Tryd.underlying3 t1
  obtain ⟨ti, e2, hy2, _⟩ := DataW.trod_string Tryd.underlying9 t2
  obtain ⟨wi, e3, _, _⟩ := DataW.trod_int Tryd.underlying3 t3
  obtain ⟨po, e4, _, w4⟩ := DataW.trod_int Tryd.underlying22 t4
  obtain ⟨A, c, xs, e5, h5, h6, _⟩ := open_argt Tryd.underlying23 Tryd.underlying9 (by kernel_rfl) t5
  obtain ⟨sa, e7, _, _⟩ := DataW.trod_int Tryd.underlying3 t6
  injection e0 with e0
  injection e1 with e1
  injection e2 with e2
  injection e3 with e3
  injection e4 with e4
  injection e7 with e7
  subst e0 e1 e2 e3 e4 e5 e7
  have hp := (bounds_u64 w4).1
  obtain ⟨q, rfl⟩ := Int.eq_ofNat_of_zero_le hp
  exact ⟨hh, mi, ti, wi, q, A, c, sa, xs, y0.1, y1.1, y3.1, y4.1, y5.1, y6.1, rfl, by rw [hy2], h6, h5⟩
end Go.Proofs.YtdpkodhfelnedaaDoor.Cod
