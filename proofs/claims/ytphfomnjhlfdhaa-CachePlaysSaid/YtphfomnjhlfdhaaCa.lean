/- The cache's nodes in memory: what a store to a neighbour does. Plain: no program (T: the node's type). -/
import Derived.Test.YtphfomnjhlfdhaaRing
import Derived.Test.YtphfomnjhlfdhaaDk
import Derived.Laws.NewBlocks
namespace Go.Proofs.Ytphfomnjhlfdhaa.Cod
open Go.RowKit
abbrev ptr (a : Nat) : Value := .pointer (some ⟨a, 0, none⟩)
def NodeAt (T : TypeId) (w : World) (a : Nat) (k : ByteArray) (v : Int) (p n : Nat) : Prop := w.heap[a]? = some (.cells #[.string k, .int .i64 v, ptr p, ptr n] T (0, 0))
section
variable {T : TypeId} {w : World}
theorem NodeAt.of_block {w' : World} {a p n : Nat} {k : ByteArray} {v : Int} (h : NodeAt T w a k v p n) (e : w'.heap[a]? = w.heap[a]?) : NodeAt T w' a k v p n := e.trans h
theorem set_cell {w : World} {a i : Nat} {cs : Array Value} {t : TypeId} {fr : Nat × Nat} (h : w.heap[a]? = some (.cells cs t fr)) (u : Value) : (w.setCell ⟨a, i, none⟩ u).heap[a]? = some (.cells (cs.setIfInBounds i u) t fr) := by
  rw [setCell_eq_setRow w a i cs t fr u h]
  exact setRow_heap w a _ _ t _ h
theorem NodeAt.next {a p n n' : Nat} {k : ByteArray} {v : Int} (h : NodeAt T w a k v p n) : NodeAt T (w.setCell ⟨a, 3, none⟩ (ptr n')) a k v p n' := (set_cell h (ptr n')).trans rfl
theorem NodeAt.prev {a p n p' : Nat} {k : ByteArray} {v : Int} (h : NodeAt T w a k v p n) : NodeAt T (w.setCell ⟨a, 2, none⟩ (ptr p')) a k v p' n := (set_cell h (ptr p')).trans rfl
theorem NodeAt.other {a b i p n : Nat} {k : ByteArray} {v : Int} (h : NodeAt T w a k v p n) (hb : a ≠ b) (u : Value) : NodeAt T (w.setCell ⟨b, i, none⟩ u) a k v p n := (Below.heap_setCell w ⟨b, i, none⟩ u a hb).trans h
variable {L : List Nat} {key : Nat → ByteArray} {val : Nat → Int} {nx pv : Nat → Nat}
def Nodes (T : TypeId) (w : World) (L : List Nat) (key : Nat → ByteArray) (val : Nat → Int) (nx pv : Nat → Nat) : Prop := ∀ a ∈ L, NodeAt T w a (key a) (val a) (pv a) (nx a)
theorem Nodes.next (h : Nodes T w L key val nx pv) (p q : Nat) : Nodes T (w.setCell ⟨p, 3, none⟩ (ptr q)) L key val (upd nx p q) pv := fun a ha => by
  by_cases e : a = p
  · subst e
    rw [upd_same]
    exact (h a ha).next
  · rw [upd_ne e]
    exact (h a ha).other e _
theorem Nodes.prev (h : Nodes T w L key val nx pv) (p q : Nat) : Nodes T (w.setCell ⟨p, 2, none⟩ (ptr q)) L key val nx (upd pv p q) := fun a ha => by
  by_cases e : a = p
  · subst e
    rw [upd_same]
    exact (h a ha).prev
  · rw [upd_ne e]
    exact (h a ha).other e _
theorem Nodes.sub {L' : List Nat} (h : Nodes T w L key val nx pv) (hs : ∀ a ∈ L', a ∈ L) : Nodes T w L' key val nx pv := fun a ha => h a (hs a ha)
theorem Nodes.of_blocks {w' : World} (h : Nodes T w L key val nx pv) (e : ∀ a ∈ L, w'.heap[a]? = w.heap[a]?) : Nodes T w' L key val nx pv := fun a ha => (h a ha).of_block (e a ha)
theorem Nodes.touch {w' : World} {S : List Nat} (h : Nodes T w L key val nx pv) (t : Touch S w w') (hs : ∀ a ∈ L, a ∉ S) : Nodes T w' L key val nx pv :=
  h.of_blocks fun a ha => t.block a (Array.getElem?_eq_some_iff.1 (h a ha)).1 (hs a ha)
end
/-- the pairs that a cache keeps, the one used last first -/
def kvp (key : Nat → ByteArray) (val : Nat → Int) (bs : List Nat) : List (ByteArray × Int) := bs.map fun a => (key a, val a)
def ents (key : Nat → ByteArray) (bs : List Nat) : List KV := bs.map fun a => (key a, ptr a)
/-- a cache of numbers -/
structure CacheAt (T TC : TypeId) (w : World) (c m h : Nat) (bs : List Nat) (key : Nat → ByteArray) (val : Nat → Int) (most hits gets : Int) : Prop where
  cell : w.heap[c]? = some (.cells #[.map (some m), ptr h, .int .i64 most, .int .i64 hits, .int .i64 gets] TC (0, 0))
  map : ∃ l, MapAt w m l ∧ l.Perm (ents key bs)
  ring : ∃ nx pv, Ring nx pv h bs ∧ Nodes T w (h :: bs) key val nx pv
theorem CacheAt.of_blocks {T TC : TypeId} {w w' : World} {c m h : Nat} {bs : List Nat} {key : Nat → ByteArray} {val : Nat → Int} {most hits gets : Int} (H : CacheAt T TC w c m h bs key val most hits gets) (e : ∀ a ∈ c :: m :: h :: bs, w'.heap[a]? = w.heap[a]?) : CacheAt T TC w' c m h bs key val most hits gets := by
  obtain ⟨h1, ⟨l, h2, h3⟩, nx, pv, h4, h5⟩ := H
  exact ⟨(e c (by simp)).trans h1, ⟨l, h2.of_block (e m (by simp)), h3⟩, nx, pv, h4, h5.of_blocks fun a ha => e a (by simp at ha ⊢; rcases ha with rfl | ha <;> simp [*])⟩
/-- all blocks of a cache lie apart -/
theorem CacheAt.apart {T TC : TypeId} {w : World} {c m h : Nat} {bs : List Nat} {key : Nat → ByteArray} {val : Nat → Int} {most hits gets : Int} (H : CacheAt T TC w c m h bs key val most hits gets) : (c :: m :: h :: bs).Nodup ∧ ∀ a ∈ c :: m :: h :: bs, a < w.heap.size := by
  obtain ⟨h1, ⟨l, h2, _⟩, nx, pv, h4, h5⟩ := H
  obtain ⟨es, ck, h2', _⟩ := h2
  have hc : c ∉ h :: bs := fun hc => by
    have := h5 c hc
    unfold NodeAt at this
    rw [h1] at this
    simp at this
  have hm : m ∉ h :: bs := fun hc => by
    have := h5 m hc
    unfold NodeAt at this
    rw [h2'] at this
    simp at this
  have hcm : c ≠ m := fun e => by
    rw [e, h2'] at h1
    simp at h1
  refine ⟨List.nodup_cons.2 ⟨?_, List.nodup_cons.2 ⟨hm, h4.2⟩⟩, fun a ha => ?_⟩
  · simp only [List.mem_cons, not_or]
    simp only [List.mem_cons, not_or] at hc
    exact ⟨hcm, hc⟩
  · rcases List.mem_cons.1 ha with rfl | ha
    · exact (Array.getElem?_eq_some_iff.1 h1).1
    · rcases List.mem_cons.1 ha with rfl | ha
      · exact (Array.getElem?_eq_some_iff.1 h2').1
      · exact (Array.getElem?_eq_some_iff.1 (h5 a ha)).1
theorem ents_find {key : Nat → ByteArray} {bs : List Nat} {l : List KV} (hl : l.Perm (ents key bs)) (hn : (l.map (·.1)).Nodup) (k : ByteArray) :
    (kfind l k = none ∧ ∀ a ∈ bs, key a ≠ k) ∨ ∃ pre x post, bs = pre ++ x :: post ∧ key x = k ∧ kfind l k = some (ptr x) ∧ ∀ a ∈ pre ++ post, key a ≠ k := by
  have hmem : ∀ p : KV, p ∈ l ↔ p ∈ ents key bs := fun p => hl.mem_iff
  by_cases hx : ∃ x ∈ bs, key x = k
  · obtain ⟨x, hx, hk⟩ := hx
    obtain ⟨pre, post, e⟩ := List.append_of_mem hx
    refine .inr ⟨pre, x, post, e, hk, ?_, ?_⟩
    · have hm : (k, ptr x) ∈ l := (hmem _).2 (List.mem_map.2 ⟨x, hx, by rw [hk]⟩)
      unfold kfind
      clear hmem hl
      induction l with
      | nil => cases hm
      | cons y l ih =>
        simp only [List.map_cons, List.nodup_cons] at hn
        rcases List.mem_cons.1 hm with rfl | hm
        · simp
        · have hy : y.1 ≠ k := fun e => hn.1 (by rw [e]; exact List.mem_map.2 ⟨_, hm, rfl⟩)
          simp only [List.find?_cons, hy, decide_false]
          exact ih hn.2 hm
    · have hn2 : ((ents key bs).map (·.1)).Nodup := (hl.map _).nodup_iff.1 hn
      have e3 : (ents key bs).map (·.1) = bs.map key := by simp [ents, List.map_map]
      rw [e3, e] at hn2
      intro a ha ea
      have hp : (pre ++ x :: post).Perm (x :: (pre ++ post)) := List.perm_middle
      have hn3 := (hp.map key).nodup_iff.1 hn2
      rw [List.map_cons, List.nodup_cons] at hn3
      exact hn3.1 (by rw [hk, ← ea]; exact List.mem_map.2 ⟨a, ha, rfl⟩)
  · have hno : ∀ a ∈ bs, key a ≠ k := fun a ha e => hx ⟨a, ha, e⟩
    refine .inl ⟨?_, hno⟩
    unfold kfind
    rw [Option.map_eq_none_iff, List.find?_eq_none]
    intro y hy
    obtain ⟨a, ha, rfl⟩ := List.mem_map.1 ((hmem y).1 hy)
    simpa using hno a ha
def updK (key : Nat → ByteArray) (x : Nat) (k : ByteArray) : Nat → ByteArray := fun a => if a = x then k else key a
def updV (val : Nat → Int) (x : Nat) (v : Int) : Nat → Int := fun a => if a = x then v else val a
theorem ents_other {key : Nat → ByteArray} {bs : List Nat} {x : Nat} {k : ByteArray} (h : x ∉ bs) : ents (updK key x k) bs = ents key bs := by
  refine List.map_congr_left fun a ha => ?_
  have : a ≠ x := fun e => h (e ▸ ha)
  simp [updK, this]
theorem kvp_other {key : Nat → ByteArray} {val : Nat → Int} {bs : List Nat} {x : Nat} {k : ByteArray} {v : Int} (h : x ∉ bs) : kvp (updK key x k) (updV val x v) bs = kvp key val bs := by
  refine List.map_congr_left fun a ha => ?_
  have : a ≠ x := fun e => h (e ▸ ha)
  simp [updK, updV, this]
theorem ents_put_none {key : Nat → ByteArray} {bs : List Nat} {l : List KV} {x : Nat} {k : ByteArray} (hl : l.Perm (ents key bs)) (hk : kfind l k = none) (hx : x ∉ bs) : (kput l k (ptr x)).Perm (ents (updK key x k) (x :: bs)) := by
  rw [kput_none hk]
  have e : ents (updK key x k) (x :: bs) = (k, ptr x) :: ents key bs := by
    have := ents_other (key := key) (k := k) hx
    unfold ents at this ⊢
    rw [List.map_cons, this]
    simp [updK]
  rw [e]
  exact (List.perm_append_singleton _ _).trans (hl.cons _)
theorem ents_put_some {key : Nat → ByteArray} {pre post : List Nat} {l : List KV} {x y : Nat} {k : ByteArray} {u : Value} (hl : l.Perm (ents key (pre ++ y :: post))) (hf : kfind l k = some u) (hy : key y = k) (hno : ∀ a ∈ pre ++ post, key a ≠ k) (hx : x ∉ pre ++ post) : (kput l k (ptr x)).Perm (ents (updK key x k) (x :: (pre ++ post))) := by
  rw [kput_some hf]
  have h1 := hl.map (fun z : KV => if z.1 = k then (k, ptr x) else z)
  refine h1.trans ?_
  have e : ents (updK key x k) (x :: (pre ++ post)) = (k, ptr x) :: ents key (pre ++ post) := by
    have := ents_other (key := key) (k := k) hx
    unfold ents at this ⊢
    rw [List.map_cons, this]
    simp [updK]
  have e2 : ∀ bs : List Nat, (∀ a ∈ bs, key a ≠ k) → (ents key bs).map (fun z : KV => if z.1 = k then (k, ptr x) else z) = ents key bs := fun bs hb => by
    unfold ents
    rw [List.map_map]
    refine List.map_congr_left fun a ha => ?_
    simp [hb a ha]
  rw [e]
  have e3 : ents key (pre ++ y :: post) = ents key pre ++ (key y, ptr y) :: ents key post := by simp [ents]
  have e4 : ents key (pre ++ post) = ents key pre ++ ents key post := by simp [ents]
  rw [e3, e4, List.map_append, List.map_cons, e2 pre (fun a ha => hno a (by simp [ha])), e2 post (fun a ha => hno a (by simp [ha])), if_pos hy]
  exact List.perm_middle
theorem ents_del {key : Nat → ByteArray} {pre post : List Nat} {l : List KV} {y : Nat} (hl : l.Perm (ents key (pre ++ y :: post))) (hno : ∀ a ∈ pre ++ post, key a ≠ key y) : (kdel l (key y)).Perm (ents key (pre ++ post)) := by
  have h1 := hl.filter (fun z : KV => !decide (z.1 = key y))
  refine h1.trans ?_
  have e3 : ents key (pre ++ y :: post) = ents key pre ++ (key y, ptr y) :: ents key post := by simp [ents]
  have e4 : ents key (pre ++ post) = ents key pre ++ ents key post := by simp [ents]
  have e2 : ∀ bs : List Nat, (∀ a ∈ bs, key a ≠ key y) → (ents key bs).filter (fun z : KV => !decide (z.1 = key y)) = ents key bs := fun bs hb => List.filter_eq_self.2 fun z hz => by
    obtain ⟨a, ha, rfl⟩ := List.mem_map.1 hz
    simp [hb a ha]
  rw [e3, e4, List.filter_append, List.filter_cons]
  simp only [decide_true, Bool.not_true, Bool.false_eq_true, if_false]
  rw [e2 pre (fun a ha => hno a (by simp [ha])), e2 post (fun a ha => hno a (by simp [ha]))]
end Go.Proofs.Ytphfomnjhlfdhaa.Cod
