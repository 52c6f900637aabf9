/- 'for x := range f' where f's value has arguments bound ahead (a method value), no round leaves early. Plain: no program. -/
import Derived.RangeFuncNested
import Derived.RangeFuncBound
import Derived.RangeFuncCalls
import Derived.RangeFuncLeaves
import Derived.RangeFuncBox
import Derived.WalkKit
import Derived.OwnWalkIn
import Derived.TacticsInMore
import Derived.LoopNIn
import Derived.LoopIn
namespace Go.Proofs.Ytphfomnjhlfdhaa.Cod
open Go.RowKit
variable {F : Fence} {n : Nat} {P : Program}
/-- the blocks D (deferred calls) and D + 1 (the loop's record) lie as they lay -/
def Rest (D : Nat) (W W' : World) : Prop := W'.heap[D]? = W.heap[D]? ∧ W'.heap[D + 1]? = W.heap[D + 1]?
theorem wpIn_range_bound {α : Type} {g : Operand} {ps : Array Tmp} {assign body : Code} {Q : Exit → Act → World → Prop} {a : Act} {w : World} (hro : F.round = none) (h1 : 1 ≤ n) {gf : Nat} {la lb : Array Value}
    (hg : a.eval g = .func (.func gf) la lb) (hFg : F.fn gf) (eg : ∀ args w, (callFunc gf args).run P w = .ok (.enter gf args) w) {encs : α → Array Value} (hps : ∀ x, (encs x).size = ps.size)
    (I : List α → World → Prop) (N : Nat) (zs : List α) (hI0 : ∀ o1 o2, I [] ((w.alloc o1).alloc o2)) (hIp : ∀ pre W l o o', I pre W → W.heap[l]? = some o' → o'.isCells = false → o'.isWalk = false → w.heap.size ≤ l → I pre (W.putObj l o))
    (hcall : ∀ (J : List α → World → Prop) (W1 : World), (∀ pre W, J pre W → I pre W) →
      (∀ pre x W, J pre W → pre.length < N → YieldAt F (n - 1 - 1) P (w.heap.size + 1) (encs x) W fun e W' => e = .returned (.bool true) ∧ J (pre ++ [x]) W') → J [] W1 →
      CallsIn F (n - 1) P gf (la ++ #[.func (.yield (w.heap.size + 1)) #[] #[]] ++ lb) W1 fun e W' => (∃ v, e = .returned v) ∧ J zs W')
    (a₁ : α → Act)
    (hassign : ∀ (l : Nat) (x : α) (W : World) (K : Act → World → Prop), K (a₁ x) W →
      assign.wpIn (F.inRound l) (n - 1 - 1) P (Exit.then K (fun _ _ _ => False)) { tmps := (ps.zip (encs x)).foldl (fun t (p, v) => t.setIfInBounds p v) a.tmps, defers := [] } W)
    (hbody : ∀ (l : Nat) (pre : List α) (x : α) (W : World), I pre W → pre.length < N → (∃ o, W.heap[w.heap.size]? = some o ∧ o.isCells = false) → (∃ o, W.heap[w.heap.size + 1]? = some o ∧ o.isCells = false) → body.wpIn (F.inRound l) (n - 1 - 1) P (fun e _ W' => e = .normal ∧ I (pre ++ [x]) W' ∧ Rest w.heap.size W W') (a₁ x) W)
    (hdone : ∀ W : World, I zs W → W.heap[w.heap.size]? = some (.deferred (some [])) → Q .normal { a with defers := { target := .collected w.heap.size, args := #[] } :: a.defers } W) :
    (Code.rangeFunc g ps assign body).wpIn F n P Q a w := by
  refine wpIn_rangeFunc fun fn hfn => ?_
  rw [hro]
  obtain ⟨rec, hrec⟩ : ∃ rec : LoopState → Loop, rec = fun st => { state := st, pending := none, fn, tmps := a.tmps, params := ps, assign, body, defers := w.heap.size } := ⟨_, rfl⟩
  refine ⟨w.heap.size + 1, [{ target := .collected w.heap.size, args := #[] }], (w.alloc (.deferred (some []))).alloc (.loop (rec .ready)), { target := .fn (.func gf) lb, args := la ++ #[.func (.yield (w.heap.size + 1)) #[] #[]] }, (w.alloc (.deferred (some []))).alloc (.loop (rec .ready)), gf,
    la ++ #[.func (.yield (w.heap.size + 1)) #[] #[]] ++ lb, (w.alloc (.deferred (some []))).alloc (.loop (rec .ready)), by rw [hrec]; exact run_enterLoop_outer _ _ _ _ _, ?_, ?_, ?_, fun _ => h1, ?_⟩
  · simp only [resolve, hg]
    simp [go_sem, Deferred.ofValue]
  · intro f' hf'
    simp [Target.leads] at hf'
    subst hf'
    exact hFg
  · simp [invoke, go_sem, eg]
  · have e0 : ((w.alloc (.deferred (some []))).alloc (.loop (rec .ready))).heap[w.heap.size]? = some (.deferred (some [])) := by
      show ((w.heap.push _).push _)[_]? = _
      rw [Array.getElem?_push, if_neg (by simp), Array.getElem?_push, if_pos rfl]
    have e1 : ((w.alloc (.deferred (some []))).alloc (.loop (rec .ready))).heap[w.heap.size + 1]? = some (.loop (rec .ready)) := by
      show ((w.heap.push _).push _)[_]? = _
      rw [Array.getElem?_push, if_pos (by simp)]
    refine (hcall (fun pre W => I pre W ∧ W.heap[w.heap.size + 1]? = some (.loop (rec .ready)) ∧ W.heap[w.heap.size]? = some (.deferred (some []))) _ (fun _ _ h => h.1) ?_ ⟨hI0 _ _, e1, e0⟩).mono ?_
    · rintro pre x W ⟨hi, hl, hk⟩ hlen
      have hlt : w.heap.size + 1 < W.heap.size := (Array.getElem?_eq_some_iff.1 hl).1
      have hy := run_yield (P := P) (args := encs x) hl (by rw [hrec]; exact hps x)
      have hb := run_beginRound (P := P) hl (by rw [hrec])
      rw [hrec] at hy
      refine ⟨fn, _, assign, body, hy, roundIn_of_wpIn hfn (hassign _ x W _ ⟨_, hb, ?_⟩)⟩
      refine wpIn_mono (hbody (w.heap.size + 1) pre x _ (hIp _ _ _ _ _ hi hl rfl rfl (by omega)) hlen ⟨_, (World.putObj_heap_other (by omega)).trans hk, rfl⟩ ⟨_, World.putObj_heap_same hlt, rfl⟩) ?_
      rintro e a3 W3 ⟨rfl, hi3, h3, h4⟩
      have hl3 : W3.heap[w.heap.size + 1]? = some (.loop { rec .ready with state := .busy }) := h4.trans (World.putObj_heap_same hlt)
      have hk3 : W3.heap[w.heap.size]? = some (.deferred (some [])) := h3.trans ((World.putObj_heap_other (by omega)).trans hk)
      have hlt3 := (Array.getElem?_eq_some_iff.1 hl3).1
      have he := run_endRound (P := P) none hl3
      refine ⟨_, _, he, rfl, hIp _ _ _ _ _ hi3 hl3 rfl rfl (by omega), ?_, (World.putObj_heap_other (by omega)).trans hk3⟩
      rw [World.putObj_heap_same hlt3, hrec]
      rfl
    · rintro e W2 ⟨⟨v, rfl⟩, hi, hl, hk⟩
      have he := run_endLoop (P := P) hl (by rw [hrec]; simp)
      refine ⟨none, _, by rw [he, hrec], hdone _ (hIp _ _ _ _ _ hi hl rfl rfl (by omega)) ((World.putObj_heap_other (by omega)).trans hk)⟩
end Go.Proofs.Ytphfomnjhlfdhaa.Cod
