/- Rows of cells: whole arrays loaded, stored, indexed; regions. No program in sight. -/
import Derived.Below
import Derived.Laws.Rows
import Derived.Laws.CopyRow
import Derived.Laws.Tables
import Derived.Deep.MidRow
import Derived.Deep.WholeRow
import Derived.StillTailTactics
namespace Go.Proofs.YtdpkodhfelnedaaDoor.Cod
open Go.RowKit
theorem region_tail {P : Program} {id : Nat} {Q : Exit → Act → World → Prop} {a : Act} {w : World} {l : List Oper} (n : Nat) (hm : P.follows .mixedOrders = true) (hB : Region.lexTailB .any l.toArray n = true)
    (h : wpStill P l.toArray w.drew (fun a' => wpList P l.toArray Q (l.drop n) a' w.drew) (l.take n) a) : (Code.region id l.toArray true).wp P Q a w := wp_region_still_tail n hm hB h
theorem region_still {P : Program} {id : Nat} {Q : Exit → Act → World → Prop} {a : Act} {w : World} {l : List Oper} (hm : P.follows .mixedOrders = true) (hB : Region.lexB .any l.toArray = true)
    (h : wpStill P l.toArray w.drew (fun a' => Q .normal a' w.drew) l a) : (Code.region id l.toArray true).wp P Q a w := wp_region_still_lit hm hB h
theorem run_store_row {P : Program} {w : World} (ty : TypeId) (b : Nat) (cs cur : Array Value) (T : TypeId) (hb : w.heap[b]? = some (.cells cur T (0, 0))) (hi : (P.info? ty).map (·.size) = some cs.size) (hs : cur.size = cs.size) (h1 : cs.all (·.oneCell') = true) :
    (storeVar ty ⟨b, 0, none⟩ (.agg cs)).run P w = .ok () (w.setRow b cs) := by
  have hst := run_storeCells_at (P := P) b 0 T cs.toList 0 cur w hb (by simp; omega) (fun v hv => (Array.all_eq_true_iff_forall_mem.1 h1) v (by simpa using hv))
  have e1 : cur.toList.drop (0 + 0 + cs.toList.length) = [] := List.drop_of_length_le (by simp; omega)
  rw [e1] at hst
  simp only [Nat.zero_add, List.take_zero, List.nil_append, List.append_nil, Array.toArray_toList] at hst
  cases hq : P.info? ty with
  | none => simp [hq] at hi
  | some i =>
    have hs : cs.size = i.size := by simp [hq] at hi; omega
    simp [storeVar, sizeOf, typeInfo, hq, Value.cells, hs, hst]
theorem wp_store_row {P : Program} {op : Oper} {a : Act} {w : World} {K : Act → World → Prop} {Q : Exit → Act → World → Prop} (ty : TypeId) (x y : Operand) (ho : op.op = .store ty x y)
    (b : Nat) (cs cur : Array Value) (T : TypeId) (hx : a.eval x = .pointer (some ⟨b, 0, none⟩)) (hy : a.eval y = .agg cs) (hb : w.heap[b]? = some (.cells cur T (0, 0)))
    (hi : (P.info? ty).map (·.size) = some cs.size) (hs : cur.size = cs.size) (h1 : cs.all (·.oneCell') = true) (h : K (a.put op.dst undef) (w.setRow b cs)) : op.wp P a w K Q := by
  unfold Oper.wp execOp
  simp only [ho, hx, hy, Instr.storeAt, Instr.sureAddr, Sem.run_bind, Sem.run_pure, Result.andThen_ok, run_store_row ty b cs cur T hb hi hs h1]
  exact h
theorem wpList_store_row {P : Program} {ops : Array Oper} {rest : List Oper} {op : Oper} {a : Act} {w : World} {Q : Exit → Act → World → Prop} (hgd : op.guard = none) (ty : TypeId) (x y : Operand) (ho : op.op = .store ty x y)
    (b : Nat) (cs cur : Array Value) (T : TypeId) (hx : a.eval x = .pointer (some ⟨b, 0, none⟩)) (hy : a.eval y = .agg cs) (hb : w.heap[b]? = some (.cells cur T (0, 0)))
    (hi : (P.info? ty).map (·.size) = some cs.size) (hs : cur.size = cs.size) (h1 : cs.all (·.oneCell') = true) (h : wpList P ops Q rest (a.put op.dst undef) (w.setRow b cs)) : wpList P ops Q (op :: rest) a w :=
  wpList_plain hgd fun _ hK => wp_store_row ty x y ho b cs cur T hx hy hb hi hs h1 (hK _ _ h)
theorem setRow_below {B : Nat} {w w' : World} (h : Below B w w') (b : Nat) (cs : Array Value) (hb : B ≤ b) : Below B w (w'.setRow b cs) :=
  ⟨h.os, h.tape, h.output, by simpa using h.size, fun k hk => by rw [setRow_other _ _ _ _ (by omega)]; exact h.block k hk⟩
/-- a load of a whole row among operations that only read -/
theorem still_load_row {P : Program} {ops : Array Oper} {w : World} {Q : Act → Prop} {a : Act} {op : Oper} {rest : List Oper} (hgd : op.guard = none) (ty : TypeId) (x : Operand) (ho : op.op = .load ty x)
    (b : Nat) (hx : a.eval x = .pointer (some ⟨b, 0, none⟩)) (T : TypeId) (cs : Array Value) (fr : Nat × Nat) (d : TypeDesc) (hc : w.heap[b]? = some (.cells cs T fr)) (hu : P.underlying ty = some d) (hd : d.isRow = true) (hi : (P.info? ty).map (·.size) = some cs.size)
    (h : wpStill P ops w Q rest (a.put op.dst (.agg cs))) : wpStill P ops w Q (op :: rest) a := by
  have hw : Region.wanted op (yielded ops a.tmps) = true := by unfold Region.wanted; rw [hgd]
  unfold wpStill
  rw [if_pos hw]
  have hr : w.rangeAt b 0 cs.toList := fun j v hv => by rw [Nat.zero_add, cell_of_row w b j cs T fr hc]; simpa using hv
  have hl := run_loadVar_mid (P := P) w b 0 ty cs.toList d hr hu hd (by rw [hi]; simp)
  rw [Array.toArray_toList] at hl
  unfold Oper.still execOp
  simp only [ho, hx, Instr.loadAt, Instr.sureAddr, Sem.run_bind, Sem.run_pure, Result.andThen_ok, hl]
  exact ⟨rfl, h⟩
/-- a store of a whole row into a block that was just made -/
theorem wpList_store_new {P : Program} {ops : Array Oper} {rest : List Oper} {op : Oper} {a : Act} {w : World} {Q : Exit → Act → World → Prop} (hgd : op.guard = none) (ty : TypeId) (x y : Operand) (ho : op.op = .store ty x y)
    (n : Nat) (hn : w.heap.size = n) (cs cur : Array Value) (T : TypeId) (hx : a.eval x = .pointer (some ⟨n, 0, none⟩)) (hy : a.eval y = .agg cs)
    (hi : (P.info? ty).map (·.size) = some cs.size) (hs : cur.size = cs.size) (h1 : cs.all (·.oneCell') = true) (h : wpList P ops Q rest (a.put op.dst undef) (w.alloc (.cells cs T))) : wpList P ops Q (op :: rest) a (w.alloc (.cells cur T)) := by
  subst hn
  refine wpList_store_row hgd ty x y ho w.heap.size cs cur T hx hy (heap_alloc_new _ _) hi hs h1 ?_
  have e : (w.alloc (.cells cur T)).setRow w.heap.size cs = w.alloc (.cells cs T) := World.setRow_alloc_new w cur cs T
  rw [e]
  exact h
/-- an element of an array's value -/
theorem run_index_arr {P : Program} {w : World} (T elem n : Nat) (cs : Array Value) (k : Nat) (v : Value) (hu : P.underlying T = some (.array n elem)) (he : (P.info? elem).map (·.size) = some 1) (hf : P.underlying elem = some (.int .u8) ∨ P.underlying elem = some (.int .u32) ∨ P.underlying elem = some (.int .i64)) (hk : k < n) (hv : cs[k]? = some v) :
    (Instr.index T (.agg cs) (.int .i64 k)).run P w = .ok v w := by
  obtain ⟨i, hq, hsz⟩ := Option.map_eq_some_iff.1 he
  have hk' : (0 : Int) ≤ (k : Int) ∧ (k : Int) < (n : Int) := by omega
  have hpart : (part elem cs k).run P w = .ok v w := by
    have hA : (isAgg elem).run P w = .ok false w := by
      unfold isAgg
      rcases hf with hf | hf | hf <;> rw [Sem.run_bind, run_underlying hf w] <;> rfl
    simp [part, hA, hv]
  simp [Instr.index, asIntOf, run_underlying hu, sizeOf, typeInfo, hq, hsz, hk', hpart]
  intro h
  omega
end Go.Proofs.YtdpkodhfelnedaaDoor.Cod
