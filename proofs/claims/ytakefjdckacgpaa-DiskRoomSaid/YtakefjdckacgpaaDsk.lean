/- disk: a disk in memory; New, Room, Deeds, Halt, Used, Loose, Read, turn. -/
import Derived.Test.YtakefjdckacgpaaDk
import Derived.Test.YtakefjdckacgpaaFix3
import Derived.Test.YtakefjdckacgpaaProg
import Derived.Lib.Hide
import Derived.Laws.NewBlocks
import Derived.IntWalk
namespace Go.Proofs.Ytakefjdckacgpaa.Cod
open Go.RowKit
open Go.ChangeMaps (setBlock)
abbrev ptr (a : Nat) : Value := .pointer (some ⟨a, 0, none⟩)
abbrev DT := 60
abbrev FLT := 63
abbrev DMT := 58
structure Dst where
  files : List Fl
  room : Int
  deeds : Int
  halt : Int
  down : Bool
structure DiskAt (w : World) (d m : Nat) (s : Dst) : Prop where
  cell : w.heap[d]? = some (.cells #[.map (some m), .int .i64 s.room, .int .i64 s.deeds, .int .i64 s.halt, .bool s.down] DT (0, 0))
  map : MapAt w m (s.files.map fkv)
  sure : ∀ f ∈ s.files, f.2.2 ≤ f.2.1.size
  room : 0 ≤ s.room ∧ s.room ≤ 1073741824
  used : (used s.files : Int) ≤ s.room
  deeds : 0 ≤ s.deeds
  halt : -1 ≤ s.halt ∧ s.halt ≤ 9223372036854775807
section
variable {w w' : World} {d m : Nat} {s : Dst}
theorem DiskAt.lt (h : DiskAt w d m s) : d < w.heap.size ∧ m < w.heap.size ∧ d ≠ m := by
  refine ⟨(Array.getElem?_eq_some_iff.1 h.cell).1, h.map.lt, fun e => ?_⟩
  obtain ⟨es, c, h1, _⟩ := h.map
  have := h.cell
  rw [e, h1] at this
  cases this
theorem DiskAt.of_blocks (h : DiskAt w d m s) (e1 : w'.heap[d]? = w.heap[d]?) (e2 : w'.heap[m]? = w.heap[m]?) : DiskAt w' d m s := ⟨e1.trans h.cell, h.map.of_block e2, h.sure, h.room, h.used, h.deeds, h.halt⟩
theorem DiskAt.below (h : DiskAt w d m s) (b : Below w.heap.size w w') : DiskAt w' d m s := h.of_blocks (b.block d h.lt.1) (b.block m h.lt.2.1)
theorem DiskAt.touch {S : List Nat} (h : DiskAt w d m s) (t : Touch S w w') (hd : d ∉ S) (hm : m ∉ S) : DiskAt w' d m s := h.of_blocks (t.block d h.lt.1 hd) (t.block m h.lt.2.1 hm)
/-- the same files, other numbers -/
theorem DiskAt.set (h : DiskAt w d m s) {room deeds halt : Int} {down : Bool} (hc : w'.heap[d]? = some (.cells #[.map (some m), .int .i64 room, .int .i64 deeds, .int .i64 halt, .bool down] DT (0, 0))) (hm : w'.heap[m]? = w.heap[m]?)
    (h1 : 0 ≤ room ∧ room ≤ 1073741824) (h2 : (Cod.used s.files : Int) ≤ room) (h3 : 0 ≤ deeds) (h4 : -1 ≤ halt ∧ halt ≤ 9223372036854775807) : DiskAt w' d m { s with room := room, deeds := deeds, halt := halt, down := down } := ⟨hc, h.map.of_block hm, h.sure, h1, h2, h3, h4⟩
end
theorem push_new {a : Array Obj} {o : Obj} {n : Nat} (h : n = a.size) : (a.push o)[n]? = some o := by
  rw [Array.getElem?_push, if_pos h]
theorem push_old {a : Array Obj} {o : Obj} {n : Nat} (h : n < a.size) : (a.push o)[n]? = a[n]? := by
  rw [Array.getElem?_push, if_neg (by omega)]
theorem lt_of_heap {w : World} {b : Nat} {o : Obj} (h : w.heap[b]? = some o) : b < w.heap.size := (Array.getElem?_eq_some_iff.1 h).1
theorem set_cell {w : World} {a i : Nat} {cs : Array Value} {t : TypeId} {fr : Nat × Nat} (h : w.heap[a]? = some (.cells cs t fr)) (u : Value) : (w.setCell ⟨a, i, none⟩ u).heap[a]? = some (.cells (cs.setIfInBounds i u) t fr) := by
  rw [setCell_eq_setRow w a i cs t fr u h]
  exact setRow_heap w a _ _ t _ h
theorem und_dm : Try.prog.underlying DMT = some (.map 9 FLT) := by kernel_rfl
theorem und_str : Try.prog.underlying 9 = some .string := by kernel_rfl
theorem zero_fl (w : World) : (zeroValue FLT).run Try.prog w = .ok (fval (ByteArray.empty, 0)) w := by kernel_rfl
theorem flook {w : World} {m : Nat} {l : List Fl} (h : MapAt w m (l.map fkv)) (k : ByteArray) (ok : Bool) : (Instr.lookup DMT (.map (some m)) (.string k) ok).run Try.prog w = .ok (if ok then .tuple #[fval ((ffind l k).getD (ByteArray.empty, 0)), .bool (ffind l k).isSome] else fval ((ffind l k).getD (ByteArray.empty, 0))) w := by
  have := run_klookup und_dm und_str h (zero_fl w) k ok
  rw [kfind_fkv] at this
  rw [this]
  cases ffind l k <;> cases ok <;> rfl
def NewDisk (n : Int) (w : World) (e : Ending) (w' : World) : Prop := ∃ d m, e = .returned (ptr d) ∧ DiskAt w' d m ⟨[], max 0 (min n 1073741824), 0, -1, false⟩ ∧ Below w.heap.size w w' ∧ w.heap.size ≤ d ∧ w.heap.size ≤ m
theorem newdisk_done (w : World) (n k : Int) (hk : k = max 0 (min n 1073741824)) : NewDisk n w (.returned (ptr (w.heap.size + 1)))
    ((w.alloc (.map #[] 0)).alloc (.cells #[.map (some w.heap.size), .int .i64 k, .int .i64 0, .int .i64 (-1), .bool false] DT)) := by
  subst hk
  refine ⟨_, w.heap.size, rfl, ⟨push_new (by simp), ?_, (fun f hf => by cases hf), by simp; omega, by simp [Cod.used]; omega, by simp, by simp⟩, ((Below.refl _ _).alloc (Nat.le_refl _) _).alloc (by simp) _, by omega, Nat.le_refl _⟩
  exact ⟨#[], 0, (push_old (by simp)).trans (push_new rfl), rfl, by simp [Go.MapKept.Stamped]⟩
set_option maxHeartbeats 4000000 in
set_option maxRecDepth 100000 in
theorem D_new (w : World) (n : Int) : Calls Try.prog 8 #[.int .i64 n] w (NewDisk n w) := by
  go_enter Try.func8, Try.ntmps8
  have hmm := @run_makeMap Try.prog
  go_wp2
  all_goals go_ret
  all_goals exact newdisk_done w n _ (by omega)
set_option maxHeartbeats 4000000 in
set_option maxRecDepth 100000 in
theorem D_room {w : World} {d m : Nat} {s : Dst} (h : DiskAt w d m s) : Calls Try.prog 11 #[ptr d] w fun e w' => e = .returned (.int .i64 s.room) ∧ w = w' := by
  have c1 := cell_of_row _ _ 1 _ _ _ h.cell
  clear h
  go_enter Try.func11, Try.ntmps11
  go_wp2
  go_ret
  exact ⟨rfl, rfl⟩
set_option maxHeartbeats 4000000 in
set_option maxRecDepth 100000 in
theorem D_deeds {w : World} {d m : Nat} {s : Dst} (h : DiskAt w d m s) : Calls Try.prog 18 #[ptr d] w fun e w' => e = .returned (.int .i64 s.deeds) ∧ w = w' := by
  have c1 := cell_of_row _ _ 2 _ _ _ h.cell
  clear h
  go_enter Try.func18, Try.ntmps18
  go_wp2
  go_ret
  exact ⟨rfl, rfl⟩
set_option maxHeartbeats 4000000 in
set_option maxRecDepth 100000 in
theorem D_halt {w : World} {d m : Nat} {s : Dst} (h : DiskAt w d m s) (n : Int) (hn : n ≤ 9223372036854775807) : Calls Try.prog 14 #[ptr d, .int .i64 n] w fun e w' => e = .returned (.tuple #[]) ∧ DiskAt w' d m { s with halt := max n (-1) } ∧ Touch [d] w w' := by
  have c1 := cell_of_row _ _ 3 _ _ _ h.cell
  have z1 := frozen_of_row _ _ 3 _ _ h.cell
  have fin : ∀ k : Int, k = max n (-1) → DiskAt (w.setCell ⟨d, 3, none⟩ (.int .i64 k)) d m { s with halt := max n (-1) } ∧ Touch [d] w (w.setCell ⟨d, 3, none⟩ (.int .i64 k)) := fun k hk => by
    subst hk
    exact ⟨h.set (room := s.room) (deeds := s.deeds) (down := s.down) ((set_cell h.cell _).trans rfl) (Below.heap_setCell _ ⟨d, 3, none⟩ _ m h.lt.2.2.symm) h.room h.used h.deeds (by omega), (Touch.refl _ _).setCell (.inl (by simp)) _⟩
  have HF := Lib.hid fin
  clear h fin
  go_enter Try.func14, Try.ntmps14
  go_wp2
  all_goals go_end0
  all_goals exact ⟨rfl, HF.out _ (by omega)⟩
end Go.Proofs.Ytakefjdckacgpaa.Cod
