/- DigestIs: the walk, by what each call means. -/
import Derived.Test.YtdpkodhfelnedaaDoorWalkDigestLong
import Derived.Test.YtdpkodhfelnedaaDoorFix3
import Derived.Test.YtdpkodhfelnedaaDoorRef
import Derived.Test.YtdpkodhfelnedaaDoorEqId
import Derived.Test.YtdpkodhfelnedaaDoorInOps
namespace Go.Proofs.YtdpkodhfelnedaaDoor.Cod
open Go.RowKit
def Text3 (a b : ByteArray) : Obj := .cells #[.string a, .string ⟨#[]⟩, .string b] 9
theorem text_at3 (w : World) (a b : ByteArray) : TextsAt (w.alloc (Text3 a b)) (some ⟨w.heap.size, 0, none⟩) 3 [a, ⟨#[]⟩, b] := by
  refine ⟨by simp, fun _ => ⟨_, _, rfl, by simp, fun j x hx => ?_⟩⟩
  refine (cell_of_row _ _ _ _ _ _ (heap_alloc_new w _)).trans ?_
  rcases j with _ | _ | _ | j
  · simp at hx; subst hx; rfl
  · simp at hx; subst hx; rfl
  · simp at hx; subst hx; rfl
  · simp at hx
theorem C_dig3 (a b : ByteArray) (hs : a.size + b.size ≤ 1000000) (w : World) (hL : Laid w) : Calls Tryd.prog 22 #[.slice (some ⟨w.heap.size, 0, none⟩) 3 3] (w.alloc (Text3 a b)) fun e w' => e = .returned (idv (sha (bl a ++ bl b))) ∧ Below (w.alloc (Text3 a b)).heap.size (w.alloc (Text3 a b)) w' := by
  have hb := (Below.refl w.heap.size w).alloc (Nat.le_refl _) (Text3 a b)
  have e : allOf [a, ⟨#[]⟩, b] = bl a ++ bl b := by simp [allOf, bl]
  have := C_dig _ 3 [a, ⟨#[]⟩, b] _ (text_at3 w a b) (by simp) (by rw [e, List.length_append, bl_len, bl_len]; omega) (hL.below hb (by have := hL.size; omega))
  rw [e] at this
  exact this
def SpecIs (a b : ByteArray) : Nat → World → World → Prop
  | 0, W, W' => Below W.heap.size W W'
  | 3, W, W' => W' = W.alloc (Text3 a b)
  | 4, W, W' => Below W.heap.size W W'
  | _, W, W' => W' = W
theorem specIs_tot (a b : ByteArray) (k : Nat) (W : World) : ∃ W', SpecIs a b k W W' := by
  rcases k with _ | _ | _ | _ | _ | k
  · exact ⟨W, Below.refl _ _⟩
  · exact ⟨W, rfl⟩
  · exact ⟨W, rfl⟩
  · exact ⟨_, rfl⟩
  · exact ⟨W, Below.refl _ _⟩
  · exact ⟨W, rfl⟩
def VIs (D : List UInt8) (DC : Array Value) : Nat → World → World → Value
  | 0, _, _ => .string (S D)
  | 3, W, _ => .slice (some ⟨W.heap.size, 0, none⟩) 3 3
  | 4, _, _ => .agg DC
  | _, _, _ => .bool true
theorem wp_load_row {P : Program} {op : Oper} {a : Act} {w : World} {K : Act → World → Prop} {Q : Exit → Act → World → Prop} (ty : TypeId) (x : Operand) (ho : op.op = .load ty x)
    (b : Nat) (hx : a.eval x = .pointer (some ⟨b, 0, none⟩)) (t : TypeId) (c : Array Value) (f : Nat × Nat) (d : TypeDesc) (hg : w.heap[b]? = some (.cells c t f)) (hu : P.underlying ty = some d) (hd : d.isRow = true) (hi : (P.info? ty).map (·.size) = some c.size)
    (h : K (a.put op.dst (.agg c)) w) : op.wp P a w K Q := by
  unfold Oper.wp execOp
  have hr : w.rangeAt b 0 c.toList := fun j v hv => by rw [Nat.zero_add, cell_of_row w b j c t f hg]; simpa using hv
  have hl := run_loadVar_mid (P := P) w b 0 ty c.toList d hr hu hd (by rw [hi]; simp)
  rw [Array.toArray_toList] at hl
  simp only [ho, hx, Instr.loadAt, Instr.sureAddr, Sem.run_bind, Sem.run_pure, Result.andThen_ok, hl]
  exact h
end Go.Proofs.YtdpkodhfelnedaaDoor.Cod
