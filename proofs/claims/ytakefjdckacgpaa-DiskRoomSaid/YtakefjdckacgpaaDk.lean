/- A disk, as a list of files; what a call leaves alone. Plain: no program. -/
import Derived.Test.YtakefjdckacgpaaMapR
import Derived.Laws.AppendOwn
namespace Go.Proofs.Ytakefjdckacgpaa.Cod
open Go.RowKit
/-- nothing of old but the blocks in S has turned -/
structure Touch (S : List Nat) (w w' : World) : Prop where
  os : w'.os = w.os
  tape : w'.tape = w.tape
  output : w'.output = w.output
  size : w.heap.size ≤ w'.heap.size
  block : ∀ k, k < w.heap.size → k ∉ S → w'.heap[k]? = w.heap[k]?
section
variable {S : List Nat} {a b c w w' : World}
theorem Touch.refl (S : List Nat) (w : World) : Touch S w w := ⟨rfl, rfl, rfl, Nat.le_refl _, fun _ _ _ => rfl⟩
theorem Touch.trans (h : Touch S a b) (k : Touch S b c) : Touch S a c :=
  ⟨k.os.trans h.os, k.tape.trans h.tape, k.output.trans h.output, Nat.le_trans h.size k.size, fun i hi hn => (k.block i (Nat.lt_of_lt_of_le hi h.size) hn).trans (h.block i hi hn)⟩
theorem Touch.mono {S' : List Nat} (h : Touch S a b) (hs : ∀ k ∈ S, k ∈ S') : Touch S' a b := ⟨h.os, h.tape, h.output, h.size, fun i hi hn => h.block i hi fun q => hn (hs i q)⟩
/-- what is younger than a may turn -/
theorem Touch.strike {S' : List Nat} (h : Touch S a b) (hs : ∀ k ∈ S, k ∈ S' ∨ a.heap.size ≤ k) : Touch S' a b := ⟨h.os, h.tape, h.output, h.size, fun i hi hn => h.block i hi fun q => by
  rcases hs i q with h | h
  · exact hn h
  · omega⟩
theorem Touch.drew (h : Touch S a w) : Touch S a w.drew := ⟨h.os, h.tape, h.output, h.size, h.block⟩
theorem Touch.of_below (h : Below a.heap.size a b) : Touch S a b := ⟨h.os, h.tape, h.output, h.size, fun i hi _ => h.block i hi⟩
theorem Touch.below {B : Nat} (h : Touch S a b) (hS : ∀ k ∈ S, B ≤ k) (hB : B ≤ a.heap.size) : Below B a b :=
  ⟨h.os, h.tape, h.output, h.size, fun i hi => h.block i (by omega) fun q => by have := hS i q; omega⟩
theorem Touch.alloc (h : Touch S a w) (o : Obj) : Touch S a (w.alloc o) := h.trans (.of_below ((Below.refl _ _).alloc (Nat.le_refl _) o))
theorem Touch.setCell (h : Touch S a w) {p : Addr} (hp : p.block ∈ S ∨ a.heap.size ≤ p.block) (u : Value) : Touch S a (w.setCell p u) :=
  ⟨h.os, h.tape, h.output, Nat.le_trans h.size (by simp), fun i hi hn => (Below.heap_setCell w p u i (fun e => by
    rcases hp with h | h
    · exact hn (e ▸ h)
    · omega)).trans (h.block i hi hn)⟩
theorem Touch.setBlock (h : Touch S a w) {r : Nat} (hr : r ∈ S ∨ a.heap.size ≤ r) (o : Obj) : Touch S a { w with heap := w.heap.setIfInBounds r o } :=
  ⟨h.os, h.tape, h.output, by simpa using h.size, fun i hi hn => by
    show (w.heap.setIfInBounds r o)[i]? = _
    rw [Array.getElem?_setIfInBounds_ne (fun e => by
      rcases hr with h | h
      · exact hn (e ▸ h)
      · omega)]
    exact h.block i hi hn⟩
theorem Touch.of_grown {row : Option Nat} (h : w.grownBy w' row) (hr : ∀ k, row = some k → k ∈ S) : Touch S w w' :=
  ⟨h.os, h.tape, h.output, h.size, fun i hi hn => h.block i hi fun e => hn (hr i e.symm)⟩
theorem Touch.grown_none (h : Touch [] w w') : w.grownBy w' none := ⟨h.os, h.tape, h.output, h.size, fun i hi _ => h.block i hi (by simp)⟩
end
/-! ## Files -/
abbrev Fl := ByteArray × (ByteArray × Nat)
def fval (v : ByteArray × Nat) : Value := .agg #[.string v.1, .int .i64 (v.2 : Int)]
def fkv (f : Fl) : KV := (f.1, fval f.2)
def ffind (l : List Fl) (n : ByteArray) : Option (ByteArray × Nat) := (l.find? fun x => decide (x.1 = n)).map (·.2)
def fdel (l : List Fl) (n : ByteArray) : List Fl := l.filter fun x => !decide (x.1 = n)
def fput (l : List Fl) (n : ByteArray) (v : ByteArray × Nat) : List Fl := if (ffind l n).isSome then l.map (fun x => if x.1 = n then (n, v) else x) else l ++ [(n, v)]
def used (l : List Fl) : Nat := (l.map fun f => f.2.1.size).sum
theorem kfind_fkv (l : List Fl) (n : ByteArray) : kfind (l.map fkv) n = (ffind l n).map fval := by
  induction l with
  | nil => rfl
  | cons x l ih =>
    by_cases h : x.1 = n
    · simp [kfind, ffind, fkv, h]
    · have e1 : kfind ((x :: l).map fkv) n = kfind (l.map fkv) n := by simp [kfind, fkv, h]
      have e2 : ffind (x :: l) n = ffind l n := by simp [ffind, h]
      rw [e1, e2, ih]
theorem kdel_fkv (l : List Fl) (n : ByteArray) : kdel (l.map fkv) n = (fdel l n).map fkv := by
  unfold kdel fdel
  rw [List.filter_map]
  rfl
theorem kput_fkv (l : List Fl) (n : ByteArray) (v : ByteArray × Nat) : kput (l.map fkv) n (fval v) = (fput l n v).map fkv := by
  unfold kput fput
  rw [kfind_fkv]
  cases h : ffind l n with
  | none => simp [fkv]
  | some u =>
    simp only [Option.map_some, Option.isSome_some, if_true, List.map_map]
    refine List.map_congr_left fun x _ => ?_
    simp only [Function.comp]
    by_cases hx : x.1 = n
    · rw [if_pos (show (fkv x).1 = n from hx), if_pos hx]; rfl
    · rw [if_neg (show ¬ (fkv x).1 = n from hx), if_neg hx]
theorem used_nil : used [] = 0 := rfl
theorem used_append (l m : List Fl) : used (l ++ m) = used l + used m := by simp [used]
theorem used_cons (f : Fl) (l : List Fl) : used (f :: l) = f.2.1.size + used l := by simp [used]
theorem used_perm {l m : List Fl} (h : l.Perm m) : used l = used m := (h.map _).sum_nat
theorem ffind_none {l : List Fl} {n : ByteArray} (h : ffind l n = none) : ∀ x ∈ l, x.1 ≠ n := by
  intro x hx e
  unfold ffind at h
  rw [Option.map_eq_none_iff, List.find?_eq_none] at h
  exact h x hx (by simpa using e)
theorem map_other {l : List Fl} {n : ByteArray} {v : ByteArray × Nat} (h : ∀ x ∈ l, x.1 ≠ n) : l.map (fun x => if x.1 = n then (n, v) else x) = l := by
  have := List.map_congr_left (l := l) (f := fun x => if x.1 = n then (n, v) else x) (g := id) fun x hx => if_neg (h x hx)
  rw [this, List.map_id]
theorem used_put {l : List Fl} (hn : (l.map (·.1)).Nodup) (n : ByteArray) (v : ByteArray × Nat) : used (fput l n v) + ((ffind l n).getD (ByteArray.empty, 0)).1.size = used l + v.1.size := by
  unfold fput
  cases h : ffind l n with
  | none => simp [used_append, used_cons, used_nil]
  | some u =>
    simp only [Option.isSome_some, if_true, Option.getD_some]
    induction l with
    | nil => simp [ffind] at h
    | cons x l ih =>
      simp only [List.map_cons, List.nodup_cons] at hn
      by_cases hx : x.1 = n
      · have hu : u = x.2 := by
          have : ffind (x :: l) n = some x.2 := by simp [ffind, hx]
          rw [h] at this
          exact Option.some.inj this
        have ho : ∀ y ∈ l, y.1 ≠ n := fun y hy e => hn.1 (by rw [hx, ← e]; exact List.mem_map.2 ⟨y, hy, rfl⟩)
        rw [List.map_cons, map_other ho, if_pos hx, used_cons, used_cons, hu]
        show v.1.size + used l + x.2.1.size = x.2.1.size + used l + v.1.size
        omega
      · have h' : ffind l n = some u := by
          have : ffind (x :: l) n = ffind l n := by simp [ffind, hx]
          rw [← this]; exact h
        rw [List.map_cons, if_neg hx, used_cons, used_cons]
        have := ih hn.2 h'
        omega
theorem fput_keys (l : List Fl) (n : ByteArray) (v : ByteArray × Nat) : (fput l n v).map (·.1) = if (ffind l n).isSome then l.map (·.1) else l.map (·.1) ++ [n] := by
  unfold fput
  split
  · rw [List.map_map]
    refine List.map_congr_left fun x _ => ?_
    simp only [Function.comp]
    by_cases hx : x.1 = n
    · rw [if_pos hx, hx]
    · rw [if_neg hx]
  · simp
theorem ffind_put (l : List Fl) (n m : ByteArray) (v : ByteArray × Nat) : ffind (fput l n v) m = if m = n then some v else ffind l m := by
  unfold fput
  cases h : ffind l n with
  | none =>
    have hno := ffind_none h
    simp only [Option.isSome_none, Bool.false_eq_true, if_false]
    unfold ffind at h ⊢
    rw [List.find?_append]
    by_cases hm : m = n
    · subst hm
      rw [Option.map_eq_none_iff] at h
      simp [h]
    · rw [if_neg hm]
      have : ¬ n = m := fun e => hm e.symm
      simp [this]
  | some u =>
    simp only [Option.isSome_some, if_true]
    induction l with
    | nil => simp [ffind] at h
    | cons x l ih =>
      by_cases hx : x.1 = n
      · by_cases hm : m = n
        · subst hm
          simp [ffind, hx]
        · have hxm : ¬ x.1 = m := fun e => hm (by rw [← e, hx])
          have hnm : ¬ n = m := fun e => hm e.symm
          rw [if_neg hm]
          have e2 : ffind (x :: l) m = ffind l m := by simp [ffind, hxm]
          rw [List.map_cons, if_pos hx, e2]
          have e1 : ffind ((n, v) :: l.map (fun x => if x.1 = n then (n, v) else x)) m = ffind (l.map (fun x => if x.1 = n then (n, v) else x)) m := by simp [ffind, hnm]
          rw [e1]
          clear ih h e1 e2
          induction l with
          | nil => rfl
          | cons y l ih =>
            by_cases hy : y.1 = n
            · have hym : ¬ y.1 = m := fun e => hm (by rw [← e, hy])
              have e1 : ffind (y :: l) m = ffind l m := by simp [ffind, hym]
              have e3 : ffind ((n, v) :: l.map (fun x => if x.1 = n then (n, v) else x)) m = ffind (l.map (fun x => if x.1 = n then (n, v) else x)) m := by simp [ffind, hnm]
              rw [List.map_cons, if_pos hy, e1, e3, ih]
            · rw [List.map_cons, if_neg hy]
              by_cases hym : y.1 = m
              · simp [ffind, hym]
              · have e1 : ffind (y :: l) m = ffind l m := by simp [ffind, hym]
                have e3 : ffind (y :: l.map (fun x => if x.1 = n then (n, v) else x)) m = ffind (l.map (fun x => if x.1 = n then (n, v) else x)) m := by simp [ffind, hym]
                rw [e1, e3, ih]
      · have h' : ffind l n = some u := by
          have : ffind (x :: l) n = ffind l n := by simp [ffind, hx]
          rw [← this]; exact h
        rw [List.map_cons, if_neg hx]
        by_cases hxm : x.1 = m
        · have hm : ¬ m = n := fun e => hx (hxm.trans e)
          rw [if_neg hm]
          simp [ffind, hxm]
        · have e1 : ffind (x :: l) m = ffind l m := by simp [ffind, hxm]
          have e3 : ffind (x :: l.map (fun x => if x.1 = n then (n, v) else x)) m = ffind (l.map (fun x => if x.1 = n then (n, v) else x)) m := by simp [ffind, hxm]
          rw [e1, e3, ih h']
end Go.Proofs.Ytakefjdckacgpaa.Cod
