/- CacheAnswers: Of, and the closure that asks it again. -/
import Derived.Test.YtphfomnjhlfdhaaCaC
import Derived.Test.YtphfomnjhlfdhaaRef
import Derived.IntWalk
namespace Go.Proofs.Ytphfomnjhlfdhaa.Cod
open Go.RowKit
def want : List UInt8 → Int
  | [] => 1
  | b :: l => (b.toNat : Int) + 3 * want l
theorem want_le : ∀ l : List UInt8, 0 ≤ want l ∧ want l ≤ 256 * 4 ^ l.length
  | [] => by simp [want]
  | b :: l => by
    have h := want_le l
    have hb : b.toNat < 256 := b.toNat_lt
    have h4 : (0 : Int) < 4 ^ l.length := Int.pow_pos (by omega)
    simp only [want, List.length_cons, Int.pow_succ]
    omega
theorem want_bd (l : List UInt8) (h : l.length ≤ 12) : 0 ≤ want l ∧ want l ≤ 4294967296 := by
  have h1 := want_le l
  have h2 : (4 : Nat) ^ l.length ≤ 4 ^ 12 := Nat.pow_le_pow_right (by omega) h
  have h3 : (4 : Nat) ^ 12 = 16777216 := by decide
  have h4 : (4 : Int) ^ l.length = ((4 ^ l.length : Nat) : Int) := by simp
  omega
abbrev FT := 26
abbrev PT0 := 24
abbrev FV (cb ob : Nat) : Value := .func (.func 8) #[] #[ptr cb, ptr ob]
structure Pre (w : World) (S : List Nat) (c cb ob : Nat) (l : PL) (most hits gets : Int) : Prop where
  cac : Cac w S c l most hits gets
  good : ∀ p ∈ l, p.2 = want (bl p.1)
  len : (l.length : Int) ≤ most
  one : 1 ≤ most
  hits0 : 0 ≤ hits
  hits1 : hits ≤ gets
  cbox : w.heap[cb]? = some (.cells #[ptr c] PT0 (0, 0))
  obox : w.heap[ob]? = some (.cells #[FV cb ob] FT (0, 0))
  cbn : cb ∉ S
  obn : ob ∉ S
def AnsAt (n : Int) (w : World) (S : List Nat) (c cb ob : Nat) (most gets : Int) (k : ByteArray) (e : Ending) (w' : World) : Prop :=
  e = .returned (.int .i64 (want (bl k))) ∧ ∃ S' l' hits' gets', Pre w' S' c cb ob l' most hits' gets' ∧ gets' ≤ gets + n ∧ Touch S w w' ∧ Foot w S S'
theorem Foot.trans {w w1 : World} {S S1 S2 : List Nat} (h : Foot w S S1) (g : Foot w1 S1 S2) (hs : w.heap.size ≤ w1.heap.size) : Foot w S S2 := fun a ha => by
  rcases g a ha with h1 | h1
  · exact h a h1
  · exact .inr (by omega)
theorem Touch.foot {w w1 w2 : World} {S S1 : List Nat} (h : Touch S w w1) (g : Touch S1 w1 w2) (f : Foot w S S1) : Touch S w w2 :=
  ((h.mono (S' := S ++ S1) (by grind)).trans (g.mono (by grind))).strike fun a ha => by
    rcases List.mem_append.1 ha with h1 | h1
    · exact .inl h1
    · exact f a h1
theorem Foot.out {w : World} {S S' : List Nat} (f : Foot w S S') {b : Nat} (hb : b < w.heap.size) (hn : b ∉ S) : b ∉ S' := fun h => by
  rcases f b h with h | h
  · exact hn h
  · omega
theorem lt_of_heap {w : World} {b : Nat} {o : Obj} (h : w.heap[b]? = some o) : b < w.heap.size := (Array.getElem?_eq_some_iff.1 h).1
theorem Pre.step {w w' : World} {S S' : List Nat} {c cb ob : Nat} {l l' : PL} {most hits gets hits' gets' : Int} (h : Pre w S c cb ob l most hits gets) (hc : Cac w' S' c l' most hits' gets') (t : Touch S w w') (f : Foot w S S') (g : ∀ p ∈ l', p.2 = want (bl p.1)) (hl : (l'.length : Int) ≤ most) (h0 : 0 ≤ hits') (h1 : hits' ≤ gets') : Pre w' S' c cb ob l' most hits' gets' :=
  ⟨hc, g, hl, h.one, h0, h1, (t.block cb (lt_of_heap h.cbox) h.cbn).trans h.cbox, (t.block ob (lt_of_heap h.obox) h.obn).trans h.obox, f.out (lt_of_heap h.cbox) h.cbn, f.out (lt_of_heap h.obox) h.obn⟩
theorem lfind_mem {l : PL} {k : ByteArray} {v : Int} (h : lfind l k = some v) : (k, v) ∈ l := by
  unfold lfind at h
  obtain ⟨p, hp, rfl⟩ := Option.map_eq_some_iff.1 h
  have h1 := List.find?_some hp
  have h2 := List.mem_of_find?_eq_some hp
  simp at h1
  subst h1
  exact h2
theorem luse_len {l : PL} {k : ByteArray} {u : Int} (h : lfind l k = some u) (hn : (l.map (·.1)).Nodup) (v : Int) : (luse l k v).length = l.length := by
  have hm := lfind_mem h
  obtain ⟨a, b, rfl⟩ := List.append_of_mem hm
  have hno : ∀ p ∈ a ++ b, p.1 ≠ k := fun p hp e => by
    have h1 : ((a ++ (k, u) :: b).map (·.1)).Perm (k :: (a ++ b).map (·.1)) := (List.perm_middle.map _)
    have h2 := h1.nodup_iff.1 hn
    exact (List.nodup_cons.1 h2).1 (by rw [← e]; exact List.mem_map.2 ⟨p, hp, rfl⟩)
  rw [(split_some (u := u) hno).2 v]
  simp
  omega
theorem luse_good {l : PL} {k : ByteArray} {v : Int} (h : ∀ p ∈ l, p.2 = want (bl p.1)) (hv : v = want (bl k)) : ∀ p ∈ luse l k v, p.2 = want (bl p.1) := by
  intro p hp
  rcases List.mem_cons.1 hp with rfl | hp
  · exact hv
  · exact h p (List.mem_filter.1 hp |>.1)
theorem calls_some {P : Program} {f : FuncId} {args : Array Value} {w : World} {R : Ending → World → Prop} (h : Calls P f args w R) : ∃ e w', R e w' := by
  obtain ⟨e, w', _, h, _⟩ := h []
  exact ⟨e, w', h⟩
theorem Pre.of_blocks {w w' : World} {S : List Nat} {c cb ob : Nat} {l : PL} {most hits gets : Int} (h : Pre w S c cb ob l most hits gets) (e : w'.heap = w.heap) : Pre w' S c cb ob l most hits gets :=
  ⟨h.cac.of_blocks fun a _ => by rw [e], h.good, h.len, h.one, h.hits0, h.hits1, by rw [e]; exact h.cbox, by rw [e]; exact h.obox, h.cbn, h.obn⟩
theorem bl_split (k : ByteArray) (h : 0 < k.size) : bl k = k[0] :: bl (k.extract 1 k.size) := by
  obtain ⟨d⟩ := k
  obtain ⟨l⟩ := d
  cases l with
  | nil => simp [ByteArray.size] at h
  | cons a l =>
    have h1 : (ByteArray.extract ⟨⟨a :: l⟩⟩ 1 (ByteArray.size ⟨⟨a :: l⟩⟩)).data = ⟨l⟩ := by
      rw [ByteArray.data_extract]
      simp [ByteArray.size]
    show a :: l = a :: (ByteArray.extract _ _ _).data.toList
    rw [h1]
end Go.Proofs.Ytphfomnjhlfdhaa.Cod
