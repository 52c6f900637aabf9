/- cache: New: the walk. -/
import Derived.Test.YtphfomnjhlfdhaaCaFront
namespace Go.Proofs.Ytphfomnjhlfdhaa.Cod
open Go.RowKit
/-- a cache, whose blocks are those in S -/
def Cac (w : World) (S : List Nat) (c : Nat) (l : List (ByteArray × Int)) (most hits gets : Int) : Prop :=
  ∃ m h bs key val, S = c :: m :: h :: bs ∧ CacheAt 49 52 w c m h bs key val most hits gets ∧ kvp key val bs = l
/-- what the new blocks are: of old or new -/
def Foot (w : World) (S S' : List Nat) : Prop := ∀ a ∈ S', a ∈ S ∨ w.heap.size ≤ a
def NewAt (n : Int) (w : World) (e : Ending) (w' : World) : Prop := ∃ c S, e = .returned (ptr c) ∧ Cac w' S c [] (max 1 (min n 1024)) 0 0 ∧ Below w.heap.size w w' ∧ ∀ a ∈ S, w.heap.size ≤ a
theorem push_new {a : Array Obj} {o : Obj} {n : Nat} (h : n = a.size) : (a.push o)[n]? = some o := by
  rw [Array.getElem?_push, if_pos h]
theorem push_old {a : Array Obj} {o : Obj} {n : Nat} (h : n < a.size) : (a.push o)[n]? = a[n]? := by
  rw [Array.getElem?_push, if_neg (by omega)]
theorem new_done (w : World) (n k : Int) (hk : k = max 1 (min n 1024)) : NewAt n w (.returned (ptr (w.heap.size + 1 + 1)))
    (((w.alloc (.cells #[.string ByteArray.empty, .int .i64 0, ptr w.heap.size, ptr w.heap.size] 49)).alloc (.map #[] 0)).alloc (.cells #[.map (some (w.heap.size + 1)), ptr w.heap.size, .int .i64 k, .int .i64 0, .int .i64 0] 52)) := by
  subst hk
  refine ⟨_, _, rfl, ⟨w.heap.size + 1, w.heap.size, [], fun _ => ByteArray.empty, fun _ => 0, rfl, ⟨?_, ⟨[], ?_, List.Perm.refl _⟩, fun _ => w.heap.size, fun _ => w.heap.size, ⟨⟨rfl, rfl, trivial⟩, by simp⟩, ?_⟩, rfl⟩, ?_, ?_⟩
  · exact push_new (by simp)
  · exact ⟨#[], 0, (push_old (by simp)).trans (push_new (by simp)), rfl, by simp [Go.MapKept.Stamped]⟩
  · intro a ha
    simp at ha
    subst ha
    exact (push_old (by simp; omega)).trans ((push_old (by simp)).trans (push_new rfl))
  · exact (((Below.refl _ _).alloc (Nat.le_refl _) _).alloc (by simp) _).alloc (by simp; omega) _
  · intro a ha
    simp at ha
    omega
set_option maxHeartbeats 4000000 in
set_option maxRecDepth 100000 in
theorem C_new (w : World) (n : Int) :
    Calls Try.prog 7 #[.int .i64 n] w (NewAt n w) := by
  go_enter Try.func7, Try.ntmps7
  have hmm := @run_makeMap Try.prog
  go_wp2
  all_goals go_ret
  all_goals exact new_done w n _ (by omega)
end Go.Proofs.Ytphfomnjhlfdhaa.Cod
