/- Maps keyed by texts: what a map's block holds, as a list of keys and values; reads, stores, deletes. Plain: no program. -/
import Derived.MapKept
import Derived.ChangeMaps5
import Derived.Below
import Derived.WalkKit
namespace Go.Proofs.Ytakefjdckacgpaa.Cod
open Go.RowKit Go.MapKept
abbrev KV := ByteArray × Value
def kfind (l : List KV) (k : ByteArray) : Option Value := (l.find? fun x => decide (x.1 = k)).map (·.2)
def kdel (l : List KV) (k : ByteArray) : List KV := l.filter fun x => !decide (x.1 = k)
def kput (l : List KV) (k : ByteArray) (v : Value) : List KV := if (kfind l k).isSome then l.map (fun x => if x.1 = k then (k, v) else x) else l ++ [(k, v)]
def ent (e : MapEntry) : Value × Value := (e.key, e.val)
def kv (x : KV) : Value × Value := (.string x.1, x.2)
/-- the map in block b holds l, in the order in which the keys came -/
def MapAt (w : World) (b : Nat) (l : List KV) : Prop :=
  ∃ es clock, w.heap[b]? = some (.map es clock) ∧ es.toList.map ent = l.map kv ∧ Stamped es clock
theorem MapAt.lt {w : World} {b : Nat} {l : List KV} (h : MapAt w b l) : b < w.heap.size := by
  obtain ⟨es, c, h, _⟩ := h
  exact (Array.getElem?_eq_some_iff.1 h).1
theorem MapAt.of_block {w w' : World} {b : Nat} {l : List KV} (h : MapAt w b l) (he : w'.heap[b]? = w.heap[b]?) : MapAt w' b l := by
  obtain ⟨es, c, h, r⟩ := h
  exact ⟨es, c, he.trans h, r⟩
theorem MapAt.below {w w' : World} {b B : Nat} {l : List KV} (h : MapAt w b l) (hb : Below B w w') (hB : b < B) : MapAt w' b l := h.of_block (hb.block b hB)
theorem keys_of {es : List MapEntry} {l : List KV} (h : es.map ent = l.map kv) : es.map (·.key) = l.map (fun x => Value.string x.1) := by
  have := congrArg (List.map Prod.fst) h
  simpa [List.map_map, Function.comp_def, ent, kv] using this
theorem MapAt.nodup {w : World} {b : Nat} {l : List KV} (h : MapAt w b l) : (l.map (·.1)).Nodup := by
  obtain ⟨es, c, _, h2, h3⟩ := h
  have hk := h3.2.2
  rw [keys_of h2] at hk
  have : (l.map (fun x => Value.string x.1)) = (l.map (·.1)).map Value.string := by simp [List.map_map]
  rw [this] at hk
  exact List.Pairwise.imp (fun h e => h (by rw [e])) (List.pairwise_map.1 hk)
theorem isKey_all {es : List MapEntry} {l : List KV} (h : es.map ent = l.map kv) : ∀ x ∈ es, IsKey .string x.key := by
  intro x hx
  have : x.key ∈ es.map (·.key) := List.mem_map.2 ⟨x, hx, rfl⟩
  rw [keys_of h] at this
  obtain ⟨y, _, e⟩ := List.mem_map.1 this
  rw [← e]
  trivial
/-- where a key is found -/
theorem find_at {es : List MapEntry} : ∀ {l : List KV}, es.map ent = l.map kv → ∀ (k : ByteArray) (i : Nat),
    (Instr.findNow .string (.string k) es i = some none ∧ kfind l k = none ∧ ∀ x ∈ l, x.1 ≠ k) ∨
    ∃ j v, Instr.findNow .string (.string k) es i = some (some (i + j, v)) ∧ kfind l k = some v ∧ l[j]? = some (k, v) ∧ (∃ e, es[j]? = some e ∧ e.key = .string k ∧ e.val = v) := by
  induction es with
  | nil =>
    intro l h k i
    cases l with
    | nil => exact .inl ⟨rfl, rfl, by simp⟩
    | cons x l => simp at h
  | cons e es ih =>
    intro l h k i
    cases l with
    | nil => simp at h
    | cons x l =>
      simp only [List.map_cons, List.cons.injEq] at h
      obtain ⟨h0, h1⟩ := h
      have hk : e.key = .string x.1 := congrArg Prod.fst h0
      have hv : e.val = x.2 := congrArg Prod.snd h0
      by_cases hx : x.1 = k
      · refine .inr ⟨0, x.2, ?_, ?_, ?_, e, rfl, by rw [hk, hx], hv⟩
        · simp [Instr.findNow, hk, Instr.sameNow, hx, hv, (bytes_beq k k).2 rfl]
        · simp [kfind, hx]
        · simp [← hx]
      · have hne : (k == x.1) = false := by
          cases hq : (k == x.1) with
          | false => rfl
          | true => exact absurd ((bytes_beq _ _).1 hq).symm hx
        have hf : kfind (x :: l) k = kfind l k := by simp [kfind, hx]
        rw [hf]
        have hs : Instr.findNow .string (.string k) (e :: es) i = Instr.findNow .string (.string k) es (i + 1) := by
          simp [Instr.findNow, hk, Instr.sameNow, hne]
        rw [hs]
        rcases ih h1 k (i + 1) with ⟨a, b, c⟩ | ⟨j, v, a, b, c, e', d1, d2, d3⟩
        · refine .inl ⟨a, b, fun y hy => ?_⟩
          rcases List.mem_cons.1 hy with rfl | hy
          · exact hx
          · exact c y hy
        · exact .inr ⟨j + 1, v, by rw [a]; simp; omega, b, by simpa using c, e', by simpa using d1, d2, d3⟩
section
variable {P : Program} {T K E : TypeId}
theorem run_klookup (hT : P.underlying T = some (.map K E)) (hK : P.underlying K = some .string) {w : World} {b : Nat} {l : List KV} (h : MapAt w b l) {z : Value} (hz : (zeroValue E).run P w = .ok z w) (k : ByteArray) (ok : Bool) :
    (Instr.lookup T (.map (some b)) (.string k) ok).run P w = .ok (if ok then .tuple #[(kfind l k).getD z, .bool (kfind l k).isSome] else (kfind l k).getD z) w := by
  obtain ⟨es, c, hb, hl, _⟩ := h
  unfold Instr.lookup
  simp only [Sem.run_bind, run_underlying hT, Result.andThen_ok, MapKept.run_getObj_map hb, Sem.run_pure, run_checkKey (k := .string k) hK trivial]
  rcases find_at hl k 0 with ⟨a, b', _⟩ | ⟨j, v, a, b', _⟩
  · rw [run_findKey hK a]
    simp only [Result.andThen_ok, hz, Sem.run_bind, Sem.run_pure, b', Option.getD_none, Option.isSome_none]
  · rw [run_findKey hK a]
    simp only [Result.andThen_ok, Sem.run_bind, Sem.run_pure, b', Option.getD_some, Option.isSome_some]
theorem kput_none {l : List KV} {k : ByteArray} (h : kfind l k = none) (v : Value) : kput l k v = l ++ [(k, v)] := by unfold kput; rw [h]; rfl
theorem kput_some {l : List KV} {k : ByteArray} {u : Value} (h : kfind l k = some u) (v : Value) : kput l k v = l.map (fun x => if x.1 = k then (k, v) else x) := by unfold kput; rw [h]; rfl
theorem run_kput (hT : P.underlying T = some (.map K E)) (hK : P.underlying K = some .string) {w : World} {b : Nat} {l : List KV} (h : MapAt w b l) (k : ByteArray) (v : Value) :
    ∃ o, (Instr.mapUpdate T (.map (some b)) (.string k) v).run P w = .ok () { w with heap := w.heap.setIfInBounds b o } ∧ MapAt { w with heap := w.heap.setIfInBounds b o } b (kput l k v) := by
  have hnd := h.nodup
  obtain ⟨es, c, hb, hl, hst⟩ := h
  unfold Instr.mapUpdate
  simp only [Sem.run_bind, run_underlying hT, Result.andThen_ok, MapKept.run_getObj_map hb, run_checkKey (k := .string k) hK trivial]
  rcases find_at hl k 0 with ⟨a, b', hno⟩ | ⟨j, u, a, b', hj, e, he, hke, _⟩
  · rw [run_findKey hK a]
    simp only [Result.andThen_ok, MapKept.run_setObj_map _ hb]
    refine ⟨_, rfl, _, _, (heap_set hb).1, ?_, stamped_push hst ?_⟩
    · rw [kput_none b']
      simp only [Array.toList_push, List.map_append, hl, List.map_cons, List.map_nil]
      rfl
    · intro x hx e
      have : x.key ∈ es.toList.map (·.key) := List.mem_map.2 ⟨x, hx, rfl⟩
      rw [keys_of hl] at this
      obtain ⟨y, hy, e2⟩ := List.mem_map.1 this
      rw [← e2] at e
      injection e with e
      exact hno y hy e
  · rw [run_findKey hK a]
    have he' : es[j]? = some e := by simpa using he
    simp only [Nat.zero_add, Result.andThen_ok, he', Option.map_some, Option.getD_some, hke, Sem.run_bind]
    rw [run_keyThatStays (d := .string) (k := .string k) trivial]
    simp only [Result.andThen_ok, MapKept.run_setObj_map _ hb]
    refine ⟨_, rfl, _, _, (heap_set hb).1, ?_, stamped_modify hst j _ (fun _ _ => rfl) (fun x _ hx => by
      rw [he'] at hx; injection hx with hx; subst hx; exact hke.symm)⟩
    rw [kput_some b']
    refine List.ext_getElem? fun i => ?_
    have hli : (es.toList.map ent)[i]? = (l.map kv)[i]? := by rw [hl]
    simp only [List.getElem?_map, Array.getElem?_toList, Array.getElem?_modify] at hli ⊢
    by_cases hij : j = i
    · subst hij
      simp only [if_true, he', hj, Option.map_some]
      rfl
    · rw [if_neg hij, hli]
      cases hq : l[i]? with
      | none => rfl
      | some x =>
        simp only [Option.map_some, Option.some.injEq]
        have hx : x.1 ≠ k := fun e => by
          have h1 : (l.map (·.1))[i]? = some k := by simp [hq, e]
          have h2 : (l.map (·.1))[j]? = some k := by simp [hj]
          exact hij ((List.getElem?_inj (by have := (List.getElem?_eq_some_iff.1 hj).1; simpa using this) hnd).1 (h2.trans h1.symm))
        rw [if_neg hx]
theorem eraseIdx_filter {l : List KV} {k : ByteArray} {v : Value} (hnd : (l.map (·.1)).Nodup) : ∀ {j : Nat}, l[j]? = some (k, v) → l.eraseIdx j = kdel l k := by
  induction l with
  | nil => intro j h; simp at h
  | cons x l ih =>
    intro j h
    simp only [List.map_cons, List.nodup_cons] at hnd
    cases j with
    | zero =>
      simp only [List.getElem?_cons_zero, Option.some.injEq] at h
      subst h
      have : ∀ y ∈ l, (!decide (y.1 = k)) = true := fun y hy => by
        have : y.1 ≠ k := fun e => hnd.1 (List.mem_map.2 ⟨y, hy, e⟩)
        simp [this]
      simp [kdel, List.filter_eq_self.2 this]
    | succ j =>
      have h' : l[j]? = some (k, v) := by simpa using h
      have hx : x.1 ≠ k := fun e => hnd.1 (by rw [e]; exact List.mem_map.2 ⟨_, List.mem_of_getElem? h', rfl⟩)
      simp only [List.eraseIdx_cons_succ, ih hnd.2 h']
      simp [kdel, hx]
theorem run_kdel (hT : P.underlying T = some (.map K E)) (hK : P.underlying K = some .string) {w : World} {b : Nat} {l : List KV} (h : MapAt w b l) (k : ByteArray) (ts : Array TypeId) (h0 : ts[0]? = some T) (ty : TypeId) :
    ∃ o, (Builtin.delete_ ts ty #[.map (some b), .string k]).run P w = .ok (.tuple #[]) { w with heap := w.heap.setIfInBounds b o } ∧ MapAt { w with heap := w.heap.setIfInBounds b o } b (kdel l k) := by
  have hnd := h.nodup
  obtain ⟨es, c, hb, hl, hst⟩ := h
  unfold Builtin.delete_
  have g0 : (#[Value.map (some b), Value.string k] : Array Value)[0]? = some (.map (some b)) := rfl
  have g1 : (#[Value.map (some b), Value.string k] : Array Value)[1]? = some (.string k) := rfl
  simp only [h0, g0, g1, Sem.run_bind, run_underlying hT, Result.andThen_ok, MapKept.run_getObj_map hb, run_checkKey (k := .string k) hK trivial]
  rcases find_at hl k 0 with ⟨a, b', hno⟩ | ⟨j, u, a, b', hj, e, he, hke, _⟩
  · rw [run_findKey hK a]
    simp only [Result.andThen_ok, Sem.run_bind, MapKept.run_setObj_map _ hb, Sem.run_pure]
    refine ⟨_, rfl, _, _, (heap_set hb).1, ?_, hst⟩
    rw [hl]
    congr 1
    unfold kdel
    exact (List.filter_eq_self.2 fun y hy => by simp [hno y hy]).symm
  · rw [run_findKey hK a]
    simp only [Nat.zero_add, Result.andThen_ok, Sem.run_bind, MapKept.run_setObj_map _ hb, Sem.run_pure]
    refine ⟨_, rfl, _, _, (heap_set hb).1, ?_, stamped_erase hst j⟩
    have hjl : j < es.size := by
      have := (List.getElem?_eq_some_iff.1 he).1
      simpa using this
    have e1 : (es.eraseIdxIfInBounds j).toList = es.toList.eraseIdx j := by
      unfold Array.eraseIdxIfInBounds
      rw [dif_pos hjl, Array.toList_eraseIdx]
    rw [e1, Go.ChangeMaps.map_eraseIdx, hl, ← Go.ChangeMaps.map_eraseIdx, eraseIdx_filter hnd hj]
theorem run_klen (hT : P.underlying T = some (.map K E)) {w : World} {b : Nat} {l : List KV} (h : MapAt w b l) (ts : Array TypeId) (h0 : ts[0]? = some T) (ty : TypeId) :
    (Builtin.len_ ts ty #[.map (some b)]).run P w = .ok (.int .i64 l.length) w := by
  obtain ⟨es, c, hb, hl, _⟩ := h
  have hs : es.size = l.length := by
    have := congrArg List.length hl
    simpa using this
  unfold Builtin.len_
  have g0 : (#[Value.map (some b)] : Array Value)[0]? = some (.map (some b)) := rfl
  simp only [h0, g0, Sem.run_bind, run_underlying hT, Result.andThen_ok, MapKept.run_getObj_map hb, Sem.run_pure, hs]
  rfl
end
theorem MapAt.made (w : World) : MapAt (w.alloc (.map #[] 0)) w.heap.size [] :=
  ⟨#[], 0, (heap_alloc w _).1, rfl, by simp [Stamped]⟩
end Go.Proofs.Ytakefjdckacgpaa.Cod
