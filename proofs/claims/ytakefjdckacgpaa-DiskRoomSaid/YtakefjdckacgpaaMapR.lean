/- Ranging over a map keyed by texts that nothing writes meanwhile. Plain: no program. -/
import Derived.Test.YtakefjdckacgpaaMapS
import Derived.Maps.RangeRun
namespace Go.Proofs.Ytakefjdckacgpaa.Cod
open Go.RowKit Go.MapKept
open Go.ChangeMaps (setBlock)
/-- the iterator in block r goes over the map in block b, which holds l; rem is still to come -/
def RangeAt (w : World) (r b : Nat) (l rem : List KV) : Prop :=
  ∃ es clock seen, w.heap[b]? = some (.map es clock) ∧ es.toList.map ent = l.map kv ∧ Stamped es clock ∧ w.heap[r]? = some (.mapIter (some b) clock seen clock) ∧ (leftOf es seen).toList.map ent = rem.map kv
theorem RangeAt.map {w : World} {r b : Nat} {l rem : List KV} (h : RangeAt w r b l rem) : MapAt w b l := by
  obtain ⟨es, c, s, h1, h2, h3, _⟩ := h
  exact ⟨es, c, h1, h2, h3⟩
theorem RangeAt.of_blocks {w w' : World} {r b : Nat} {l rem : List KV} (h : RangeAt w r b l rem) (hb : w'.heap[b]? = w.heap[b]?) (hr : w'.heap[r]? = w.heap[r]?) : RangeAt w' r b l rem := by
  obtain ⟨es, c, s, h1, h2, h3, h4, h5⟩ := h
  exact ⟨es, c, s, hb.trans h1, h2, h3, hr.trans h4, h5⟩
theorem RangeAt.lt {w : World} {r b : Nat} {l rem : List KV} (h : RangeAt w r b l rem) : r < w.heap.size ∧ b < w.heap.size ∧ r ≠ b := by
  obtain ⟨es, c, s, h1, _, _, h4, _⟩ := h
  refine ⟨(Array.getElem?_eq_some_iff.1 h4).1, (Array.getElem?_eq_some_iff.1 h1).1, fun e => ?_⟩
  subst e
  rw [h1] at h4
  cases h4
theorem run_krange {P : Program} {T K E : TypeId} (hT : P.underlying T = some (.map K E)) {w : World} {b : Nat} {l : List KV} (h : MapAt w b l) :
    ∃ o, (Instr.range T (.map (some b))).run P w = .ok (.pointer (some ⟨w.heap.size, 0, none⟩)) (w.alloc o) ∧ RangeAt (w.alloc o) w.heap.size b l l := by
  obtain ⟨es, c, hb, hl, hst⟩ := h
  refine ⟨.mapIter (some b) c #[] c, ?_, es, c, #[], ((heap_alloc w _).2 b (Array.getElem?_eq_some_iff.1 hb).1).trans hb, hl, hst, (heap_alloc w _).1, ?_⟩
  · unfold Instr.range
    simp only [Sem.run_bind, run_underlying hT, Result.andThen_ok, MapKept.run_getObj_map hb, Sem.run_pure, run_newObj_alloc]
  · rw [← hl]
    congr 1
    unfold leftOf
    rw [Array.filter_eq_self.2 (fun x _ => by simp)]
theorem left_push {es : Array MapEntry} {seen : Array Nat} {e : MapEntry} : (leftOf es (seen.push e.born)).toList = (leftOf es seen).toList.filter fun x => !decide (x.born = e.born) := by
  unfold leftOf
  simp only [Array.toList_filter, List.filter_filter]
  refine List.filter_congr fun x _ => ?_
  simp only [Array.contains_push]
  by_cases h : x.born = e.born
  · simp [h]
  · simp [h]
theorem filter_perm {l : List MapEntry} (hn : (l.map (·.born)).Nodup) {e : MapEntry} (he : e ∈ l) : l.Perm (e :: l.filter fun x => !decide (x.born = e.born)) := by
  induction l with
  | nil => cases he
  | cons x l ih =>
    simp only [List.map_cons, List.nodup_cons] at hn
    rcases List.mem_cons.1 he with rfl | he
    · have : l.filter (fun x => !decide (x.born = e.born)) = l := List.filter_eq_self.2 fun y hy => by
        have : y.born ≠ e.born := fun q => hn.1 (List.mem_map.2 ⟨y, hy, q⟩)
        simp [this]
      simp [this]
    · have hx : x.born ≠ e.born := fun q => hn.1 (by rw [q]; exact List.mem_map.2 ⟨e, he, rfl⟩)
      rw [List.filter_cons]
      simp only [hx, decide_false, Bool.not_false, if_true]
      exact ((ih hn.2 he).cons x).trans (List.Perm.swap _ _ _)
theorem perm_back {es : List MapEntry} {rem : List KV} (h : es.map ent = rem.map kv) {e : MapEntry} (he : e ∈ es) (hn : (es.map (·.born)).Nodup) :
    ∃ x rem', ent e = kv x ∧ rem.Perm (x :: rem') ∧ (es.filter fun y => !decide (y.born = e.born)).map ent = rem'.map kv := by
  induction es generalizing rem with
  | nil => cases he
  | cons a es ih =>
    cases rem with
    | nil => simp at h
    | cons y rem =>
      simp only [List.map_cons, List.cons.injEq] at h
      simp only [List.map_cons, List.nodup_cons] at hn
      rcases List.mem_cons.1 he with rfl | he
      · refine ⟨y, rem, h.1, List.Perm.refl _, ?_⟩
        have : es.filter (fun x => !decide (x.born = e.born)) = es := List.filter_eq_self.2 fun z hz => by
          have : z.born ≠ e.born := fun q => hn.1 (List.mem_map.2 ⟨z, hz, q⟩)
          simp [this]
        simp [this, h.2]
      · obtain ⟨x, rem', h1, h2, h3⟩ := ih h.2 he hn.2
        have hx : a.born ≠ e.born := fun q => hn.1 (by rw [q]; exact List.mem_map.2 ⟨e, he, rfl⟩)
        refine ⟨x, y :: rem', h1, (h2.cons y).trans (List.Perm.swap _ _ _), ?_⟩
        rw [List.filter_cons]
        simp only [hx, decide_false, Bool.not_false, if_true, List.map_cons, h3, h.1]
theorem run_knext {P : Program} {w : World} {r b : Nat} {l rem : List KV} (h : RangeAt w r b l rem) (ty : TypeId) :
    (rem = [] ∧ (Instr.next (.pointer (some ⟨r, 0, none⟩)) false ty).run P w = .ok (.tuple #[.bool false]) w) ∨
    ∃ x rem' w1 o, rem.Perm (x :: rem') ∧ (w1 = w ∨ w1 = w.drew) ∧ (Instr.next (.pointer (some ⟨r, 0, none⟩)) false ty).run P w = .ok (.tuple #[.bool true, .string x.1, x.2]) (setBlock w1 r o) ∧ RangeAt (setBlock w1 r o) r b l rem' ∧
      (Instr.entry (.pointer (some ⟨r, 0, none⟩))).run P (setBlock w1 r o) = .ok (.tuple #[.string x.1, x.2]) (setBlock w1 r o) := by
  have hrb := h.lt.2.2
  obtain ⟨es, c, seen, hb, hl, hst, hr, hlf⟩ := h
  rcases run_next_at (P := P) w ty r b c c seen es c hr hb hst.1 (Nat.le_refl _) with ⟨h0, hrun⟩ | ⟨e, he, w1, hw1, hrun⟩
  · refine .inl ⟨?_, hrun⟩
    have : (leftOf es seen).toList = [] := List.eq_nil_of_length_eq_zero (by simpa using h0)
    rw [this] at hlf
    simpa using hlf.symm
  · have hmem : e ∈ es.toList := by
      unfold leftOf at he
      simp at he ⊢
      exact he.1
    have hnl : ((leftOf es seen).toList.map (·.born)).Nodup := by
      unfold leftOf
      rw [Array.toList_filter]
      exact (List.filter_sublist.map _).nodup hst.2.1
    obtain ⟨x, rem', hx, hp, hrest⟩ := perm_back hlf he hnl
    have hk : e.key = .string x.1 := congrArg Prod.fst hx
    have hv : e.val = x.2 := congrArg Prod.snd hx
    have hb1 : w1.heap = w.heap := by rcases hw1 with rfl | rfl <;> rfl
    have hset : (setBlock w1 r (.mapIter (some b) c (seen.push e.born) c)).heap[b]? = some (.map es c) := by
      show (w1.heap.setIfInBounds r _)[b]? = _
      rw [hb1, Array.getElem?_setIfInBounds_ne hrb]
      exact hb
    have hsr : (setBlock w1 r (.mapIter (some b) c (seen.push e.born) c)).heap[r]? = some (.mapIter (some b) c (seen.push e.born) c) := by
      show (w1.heap.setIfInBounds r _)[r]? = _
      rw [hb1]
      exact (heap_set hr).1
    refine .inr ⟨x, rem', w1, _, hp, hw1, ?_, ⟨es, c, _, hset, hl, hst, hsr, ?_⟩, ?_⟩
    · rw [hrun, hk, hv]
    · rw [left_push]; exact hrest
    · have := run_entry_at (P := P) _ r b c seen es c e hsr hset hmem hst.2.1
      rw [this, hk, hv]
end Go.Proofs.Ytakefjdckacgpaa.Cod
