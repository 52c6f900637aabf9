/- codec.In: what is left to be taken and the first error; contracts by what each call means. -/
import Derived.Test.YtakefjdckacgpaaIn
namespace Go.Proofs.Ytakefjdckacgpaa.Cod
open Go.RowKit
abbrev St := List UInt8 × Nat
def fail (f : Nat) (st : St) : St := if st.2 = 0 ∧ f ≠ 0 then ([], f) else st
def inNum (most : Int) (st : St) : Nat × St :=
  if st.2 ≠ 0 then (0, st) else if (hd st.1).2.2 ≠ 0 then (0, ([], (hd st.1).2.2)) else if most < ((hd st.1).1 : Int) then (0, ([], 4)) else ((hd st.1).1, (st.1.drop (hd st.1).2.1, 0))
def inRaw (n : Nat) (st : St) : List UInt8 × St :=
  if st.2 ≠ 0 then ([], st) else if st.1.length < n then ([], ([], 2)) else (st.1.take n, (st.1.drop n, 0))
def inText (most : Int) (st : St) : List UInt8 × St := inRaw (inNum (max most 0) st).1 (inNum (max most 0) st).2
def inEnd (st : St) : Nat := if st.1 = [] then st.2 else 3
/-- what a call leaves of all else -/
def Fi (b : Nat) (w w' : World) : Prop := w.grownBy w' (some b)
theorem Fi.refl (b : Nat) (w : World) : Fi b w w := World.grownBy.refl w _
theorem Fi.trans {b : Nat} {x y z : World} (h : Fi b x y) (k : Fi b y z) : Fi b x z :=
  ⟨k.os.trans h.os, k.tape.trans h.tape, k.output.trans h.output, Nat.le_trans h.size k.size, fun i hi hb => (k.block i (Nat.lt_of_lt_of_le hi h.size) hb).trans (h.block i hi hb)⟩
theorem Fi.set (b : Nat) {w w' : World} (h : Fi b w w') (i : Nat) (v : Value) : Fi b w (w'.setCell ⟨b, i, none⟩ v) :=
  Fi.trans h ⟨rfl, rfl, rfl, by simp [World.setCell], fun k _ hb => Below.heap_setCell _ _ _ _ (fun e => hb (by rw [e]))⟩
theorem set_heap {w : World} {b i : Nat} {cs : Array Value} {t : TypeId} (h : w.heap[b]? = some (.cells cs t (0, 0))) (v : Value) : (w.setCell ⟨b, i, none⟩ v).heap[b]? = some (.cells (cs.setIfInBounds i v) t (0, 0)) := by
  simp [World.setCell, Array.getElem?_modify, h]
theorem bl_drop (s : ByteArray) (n : Nat) : bl (s.extract n s.size) = (bl s).drop n := by
  have h := bl_len s
  show (s.extract n s.size).data.toList = s.data.toList.drop n
  rw [ByteArray.data_extract, Array.toList_extract, List.extract_eq_take_drop]
  exact List.take_of_length_le (by rw [List.length_drop]; have : s.data.toList.length = s.size := h; omega)
theorem bl_take (s : ByteArray) (n : Nat) : bl (s.extract 0 n) = (bl s).take n := by
  show (s.extract 0 n).data.toList = s.data.toList.take n
  rw [ByteArray.data_extract, Array.toList_extract, List.extract_eq_take_drop]
  simp
theorem inNum_le (most : Int) (st : St) : (inNum most st).1 < 9223372036854775808 := by
  unfold inNum
  split
  · simp
  · split
    · simp
    · split
      · simp
      · rename_i h1 h2 h3
        have := @hd_ok st.1 (hd st.1).1 (hd st.1).2.1
        have e : (hd st.1).2.2 = 0 := by omega
        exact (this (by rw [← e])).1
/-! ### the writer's other calls -/
theorem numB_len_le {x : Nat} (h : x < 9223372036854775808) : (numB x).length ≤ 9 := by rw [numB_len]; have := digs_len_8 h; omega
/-- a block of another type is kept -/
theorem Fr.kept {B b : Nat} {w w' : World} (h : Fr B b w w') {k : Nat} {cs : Array Value} {t : TypeId} {fz : Nat × Nat} (hk : w.heap[k]? = some (.cells cs t fz)) (hne : k ≠ b) (ht : t ≠ 5) : w'.heap[k]? = some (.cells cs t fz) :=
  h.2 k _ hk (by intro e; exact hne (by injection e)) (by intro c f e; injection e with _ e2 _; exact ht e2)
theorem Fi.below {B b : Nat} {w w' : World} (h : Fi b w w') (hB : B ≤ b) (hw : B ≤ w.heap.size) : Below B w w' :=
  ⟨h.os, h.tape, h.output, h.size, fun k hk => h.block k (by omega) (by intro e; injection e with e; omega)⟩
end Go.Proofs.Ytakefjdckacgpaa.Cod
