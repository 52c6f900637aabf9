/- A slice of texts that came in: what is read of it; how a row opens it. Cut of any text. -/
import Derived.SliceStrings
import Derived.WalkKit
import Derived.ProofKit
import Derived.Lib.Hide
import Derived.Test.YtakefjdckacgpaaRef
namespace Go.Proofs.Ytakefjdckacgpaa.Cod
open Go.ChangeShapes Go.WideShapes Go.RowKit
def TextsAt (w : World) (A : Option Addr) (ss : List ByteArray) : Prop := ∀ (j : Nat) x, ss[j]? = some x → ∃ a : Addr, A = some a ∧ (a.add j).block < w.heap.size ∧ w.cell? (a.add j) = some (.string x)
theorem TextsAt.below {w w' : World} {A : Option Addr} {ss : List ByteArray} {B : Nat} (h : TextsAt w A ss) (hb : Below B w w') (hB : B = w.heap.size) : TextsAt w' A ss := fun j x hx => by
  obtain ⟨a, e, l, c⟩ := h j x hx
  subst hB
  exact ⟨a, e, Nat.lt_of_lt_of_le l hb.size, (hb.cell l).trans c⟩
theorem block_add (a : Addr) (j : Nat) : (a.add j).block = a.block := by unfold Addr.add; split <;> rfl
theorem lt_of_cell {w : World} {p : Addr} {v : Value} (h : w.cell? p = some v) : p.block < w.heap.size := by
  rcases Nat.lt_or_ge p.block w.heap.size with h1 | h1
  · exact h1
  · exfalso
    unfold World.cell? at h
    have h2 : w.heap[p.block]? = none := Array.getElem?_eq_none h1
    simp [h2] at h
theorem open_txts {H : Type} {enc : TypeId × Value → H} {P : Program} {w : World} {base : Nat} {spare : Nat → Bool} {held : Bool} {t e fuel len cap : Nat} {A : Option Addr} {x : DataW H × List MemPlace} (ht : P.underlying t = some (.slice e)) (he : P.underlying e = some .string) (hc : P.cellsOf e = 1)
    (h : DataW.trod enc P w base spare held fuel t [.slice A len cap] = some x) : ∃ ss : List ByteArray, ss.length = len ∧ len ≤ maxLen ∧ TextsAt w A ss ∧ ∀ s ∈ ss, s.size ≤ maxLen := by
  rcases open_strings ht he hc h with ⟨hcs, _⟩ | ⟨a, len', cap', ss, hcs, _, hl, hm, hz, _, hcell, hsz⟩
  · injection hcs with h1 _
    injection h1 with h1 h2 h3
    subst h2
    exact ⟨[], rfl, Nat.zero_le _, fun j x hx => by simp at hx, fun s hs => by cases hs⟩
  · injection hcs with h1 _
    injection h1 with h1 h2 h3
    subst h1 h2 h3
    have hlen : len ≤ ss.length := by rw [hz]; split <;> omega
    refine ⟨ss.take len, by rw [List.length_take]; omega, by omega, fun j x hx => ?_, fun s hs => hsz s (List.mem_of_mem_take hs)⟩
    have hj : j < len := by
      have := (List.getElem?_eq_some_iff.1 hx).1
      rw [List.length_take] at this
      omega
    have hc := hcell j (by omega)
    rw [List.getElem?_take, if_pos hj] at hx
    rw [List.getD_eq_getElem?_getD, hx] at hc
    exact ⟨a, rfl, lt_of_cell hc, hc⟩
/-- for a walk: what a row opened at t gives -/
theorem open_texts_row {H : Type} {enc : TypeId × Value → H} {P : Program} {w : World} {base : Nat} {spare : Nat → Bool} {held : Bool} {t e len cap : Nat} {A : Option Addr} {d : DataW H} {p : List MemPlace} (ht : P.underlying t = some (.slice e)) (he : P.underlying e = some .string) (hc : P.cellsOf e = 1)
    (h : DataW.Trod enc P w base spare held t (.slice A len cap) d p) : ∃ ss : List ByteArray, ss.length = len ∧ len ≤ maxLen ∧ TextsAt w A ss ∧ ∀ s ∈ ss, s.size ≤ maxLen := by
  obtain ⟨fuel, hf⟩ := h
  exact open_txts ht he hc (by simpa [Value.cells] using hf)
def cutB (s : ByteArray) (n : Nat) : ByteArray := S ((bl s).take n)
theorem cutB_size (s : ByteArray) (n : Nat) : (cutB s n).size ≤ n ∧ (cutB s n).size ≤ s.size := by
  have h : (bl (cutB s n)).length = (cutB s n).size := bl_len _
  unfold cutB at *
  rw [bl_S, List.length_take, bl_len] at h
  omega
set_option maxHeartbeats 800000 in
set_option maxRecDepth 100000 in
theorem C_cutB (s : ByteArray) (n : Nat) (hn : n ≤ 1000000) (w : World) :
    Calls Try.prog 21 #[.string s, .int .i64 n] w fun e w' => e = .returned (.string (cutB s n)) ∧ w = w' := by
  have hl := bl_len s
  by_cases h : (s.size : Int) > (n : Int)
  · have h' : (n : Int) < (s.size : Int) := h
    go_enter Try.func21, Try.ntmps21
    go_wp2
    go_ret
    exact ⟨ret_str (by rw [cutB, ← bl_take, S_bl]), rfl⟩
  · have h' : (s.size : Int) ≤ (n : Int) := by omega
    go_enter Try.func21, Try.ntmps21
    go_wp2
    go_ret
    exact ⟨ret_str (by rw [cutB, List.take_of_length_le (by omega), S_bl]), rfl⟩
end Go.Proofs.Ytakefjdckacgpaa.Cod
