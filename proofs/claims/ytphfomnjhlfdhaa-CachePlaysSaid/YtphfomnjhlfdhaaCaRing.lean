/- cache: out, front, in the ring's words. -/
import Derived.Test.YtphfomnjhlfdhaaCaNew
namespace Go.Proofs.Ytphfomnjhlfdhaa.Cod
open Go.RowKit
abbrev NT := 49
def RingAt (w : World) (h : Nat) (bs : List Nat) (key : Nat → ByteArray) (val : Nat → Int) : Prop := ∃ nx pv, Ring nx pv h bs ∧ Nodes NT w (h :: bs) key val nx pv
/-- a node, wherever it hangs -/
def Nd (w : World) (x : Nat) (k : ByteArray) (v : Int) : Prop := ∃ u2 u3, w.heap[x]? = some (.cells #[.string k, .int .i64 v, u2, u3] NT (0, 0))
theorem Eqh.touch {S : List Nat} {w a b : World} (e : Eqh a b) (t : Touch S w b) : Touch S w a :=
  ⟨e.os.trans t.os, e.tape.trans t.tape, e.output.trans t.output, by rw [e.heap]; exact t.size, fun k hk hn => by rw [e.heap]; exact t.block k hk hn⟩
theorem Nodes.eqh {L : List Nat} {a b : World} {key : Nat → ByteArray} {val : Nat → Int} {nx pv : Nat → Nat} (e : Eqh a b) (h : Nodes NT b L key val nx pv) : Nodes NT a L key val nx pv := h.of_blocks fun x _ => by rw [e.heap]
theorem NodeAt.eqh {x p n : Nat} {k : ByteArray} {v : Int} {a b : World} (e : Eqh a b) (h : NodeAt NT b x k v p n) : NodeAt NT a x k v p n := by
  unfold NodeAt at h ⊢
  rw [e.heap]
  exact h
theorem RingAt.of_blocks {w w' : World} {h : Nat} {bs : List Nat} {key : Nat → ByteArray} {val : Nat → Int} (H : RingAt w h bs key val) (e : ∀ a ∈ h :: bs, w'.heap[a]? = w.heap[a]?) : RingAt w' h bs key val := by
  obtain ⟨nx, pv, h1, h2⟩ := H
  exact ⟨nx, pv, h1, h2.of_blocks e⟩
theorem RingAt.lt {w : World} {h : Nat} {bs : List Nat} {key : Nat → ByteArray} {val : Nat → Int} (H : RingAt w h bs key val) : ∀ a ∈ h :: bs, a < w.heap.size := by
  obtain ⟨nx, pv, h1, h2⟩ := H
  exact fun a ha => (h2 a ha).lt
theorem RingAt.node {w : World} {h : Nat} {bs : List Nat} {key : Nat → ByteArray} {val : Nat → Int} (H : RingAt w h bs key val) {x : Nat} (hx : x ∈ h :: bs) : Nd w x (key x) (val x) := by
  obtain ⟨nx, pv, h1, h2⟩ := H
  exact ⟨_, _, h2 x hx⟩
/-- other keys and values where it does not look -/
theorem RingAt.congr {w : World} {h : Nat} {bs : List Nat} {key key' : Nat → ByteArray} {val val' : Nat → Int} (H : RingAt w h bs key val) (e : ∀ a ∈ h :: bs, key' a = key a ∧ val' a = val a) : RingAt w h bs key' val' := by
  obtain ⟨nx, pv, h1, h2⟩ := H
  refine ⟨nx, pv, h1, fun a ha => ?_⟩
  rw [(e a ha).1, (e a ha).2]
  exact h2 a ha
theorem C_out' {h x : Nat} {pre post : List Nat} {key : Nat → ByteArray} {val : Nat → Int} (w : World) (H : RingAt w h (pre ++ x :: post) key val) :
    Calls Try.prog 19 #[ptr x] w fun e w' => e = .returned (.tuple #[]) ∧ RingAt w' h (pre ++ post) key val ∧ Nd w' x (key x) (val x) ∧ Touch (h :: (pre ++ post)) w w' ∧ w'.heap.size = w.heap.size := by
  obtain ⟨nx, pv, r, hn⟩ := H
  obtain ⟨p, q, hp, hq, hpm, hqm, r'⟩ := ring_out r
  have nd : (x :: h :: (pre ++ post)).Nodup := by
    have h1 : (h :: (pre ++ x :: post)).Perm (x :: h :: (pre ++ post)) := (List.perm_middle.cons h).trans (List.Perm.swap _ _ _)
    exact h1.nodup_iff.1 r.2
  have hpm' : p ∈ h :: (pre ++ post) := by
    rcases List.mem_cons.1 hpm with e | e
    · simp [e]
    · simp [e]
  have hqm' : q ∈ h :: (pre ++ post) := by
    rcases List.mem_append.1 hqm with e | e
    · simp [e]
    · simp at e; simp [e]
  have hmem : ∀ a ∈ h :: (pre ++ post), a ∈ h :: (pre ++ x :: post) := fun a ha => by
    simp only [List.mem_cons, List.mem_append] at ha ⊢
    rcases ha with e | e | e <;> simp [e]
  have hpx : p ≠ x := fun e => (List.nodup_cons.1 nd).1 (e ▸ hpm')
  have hqx : q ≠ x := fun e => (List.nodup_cons.1 nd).1 (e ▸ hqm')
  have nX := hn x (by simp)
  rw [hp, hq] at nX
  refine (C_out w nX (hn p (hmem p hpm')) (hn q (hmem q hqm')) hpx hqx).mono fun e w' ⟨he, hw⟩ => ⟨he, ⟨_, _, r', ?_⟩, ⟨ptr p, ptr q, ?_⟩, ?_, ?_⟩
  · exact ((((hn.sub hmem).next p q).prev q p)).eqh hw
  · exact ((nX.other hpx.symm _).other hqx.symm _).eqh hw
  · exact hw.touch (((Touch.refl _ _).setCell (.inl hpm') _).setCell (.inl hqm') _)
  · rw [hw.heap]; simp
theorem C_front' {c x h : Nat} {bs : List Nat} {key : Nat → ByteArray} {val : Nat → Int} {m : Option Nat} {most hits gets : Int} (w : World)
    (hc : w.heap[c]? = some (.cells #[.map m, ptr h, .int .i64 most, .int .i64 hits, .int .i64 gets] 52 (0, 0)))
    (H : RingAt w h bs key val) (hx : Nd w x (key x) (val x)) (hxn : x ∉ h :: bs) :
    Calls Try.prog 20 #[ptr c, ptr x] w fun e w' => e = .returned (.tuple #[]) ∧ RingAt w' h (x :: bs) key val ∧ Touch (h :: x :: bs) w w' ∧ w'.heap.size = w.heap.size := by
  obtain ⟨nx, pv, r, hn⟩ := H
  obtain ⟨p, n, nX⟩ := hx
  have r' := ring_front r hxn
  have hqm : nx h ∈ h :: bs := by
    rw [(ring_ends r).1]
    cases bs with
    | nil => simp
    | cons b bs => simp
  have hhx : h ≠ x := fun e => hxn (by rw [e]; simp)
  have hqx : nx h ≠ x := fun e => hxn (e ▸ hqm)
  refine (C_front w hc nX (hn h (by simp)) (hn _ hqm) hhx hqx).mono fun e w' ⟨he, hw⟩ => ⟨he, ⟨_, _, r', ?_⟩, ?_, ?_⟩
  · refine Nodes.eqh hw ?_
    have h0 : Nodes NT ((w.setCell ⟨x, 2, none⟩ (ptr h)).setCell ⟨x, 3, none⟩ (ptr (nx h))) (x :: h :: bs) key val (upd nx x (nx h)) (upd pv x h) := fun a ha => by
      by_cases e : a = x
      · subst e; rw [upd_same, upd_same]; exact (set_cell (set_cell nX _) _).trans rfl
      · rw [upd_ne e, upd_ne e]
        exact ((hn a ((List.mem_cons.1 ha).resolve_left e)).other e _).other e _
    have h1 := (h0.next h x).prev (nx h) x
    exact h1.sub fun a ha => by grind
  · have hq2 : nx h ∈ h :: x :: bs := by
      rcases List.mem_cons.1 hqm with e | e
      · simp [e]
      · exact List.mem_cons_of_mem _ (List.mem_cons_of_mem _ e)
    exact hw.touch (((((Touch.refl _ _).setCell (.inl (by simp)) _).setCell (.inl (by simp)) _).setCell (.inl (by simp)) _).setCell (.inl hq2) _)
  · rw [hw.heap]; simp
end Go.Proofs.Ytphfomnjhlfdhaa.Cod
