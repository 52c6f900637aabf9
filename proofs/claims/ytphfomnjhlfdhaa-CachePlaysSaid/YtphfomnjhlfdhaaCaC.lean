/- cache: Get, Put, Len, by what is kept. -/
import Derived.Test.YtphfomnjhlfdhaaCaPut
namespace Go.Proofs.Ytphfomnjhlfdhaa.Cod
open Go.RowKit
abbrev PL := List (ByteArray × Int)
def lfind (l : PL) (k : ByteArray) : Option Int := (l.find? fun p => decide (p.1 = k)).map (·.2)
def luse (l : PL) (k : ByteArray) (v : Int) : PL := (k, v) :: l.filter fun p => !decide (p.1 = k)
theorem lfind_none {l : PL} {k : ByteArray} (h : ∀ p ∈ l, p.1 ≠ k) : lfind l k = none := by
  unfold lfind
  rw [Option.map_eq_none_iff, List.find?_eq_none]
  exact fun p hp => by simpa using h p hp
theorem luse_none {l : PL} {k : ByteArray} (h : ∀ p ∈ l, p.1 ≠ k) (v : Int) : luse l k v = (k, v) :: l := by
  unfold luse
  rw [List.filter_eq_self.2 fun p hp => by simp [h p hp]]
theorem split_some {a b : PL} {k : ByteArray} {u : Int} (h : ∀ p ∈ a ++ b, p.1 ≠ k) : lfind (a ++ (k, u) :: b) k = some u ∧ ∀ v, luse (a ++ (k, u) :: b) k v = (k, v) :: (a ++ b) := by
  have ha : ∀ p ∈ a, p.1 ≠ k := fun p hp => h p (by simp [hp])
  have hb : ∀ p ∈ b, p.1 ≠ k := fun p hp => h p (by simp [hp])
  refine ⟨?_, fun v => ?_⟩
  · unfold lfind
    rw [List.find?_append, List.find?_eq_none.2 fun p hp => by simpa using ha p hp]
    simp
  · unfold luse
    rw [List.filter_append, List.filter_cons, List.filter_eq_self.2 fun p hp => by simp [ha p hp], List.filter_eq_self.2 fun p hp => by simp [hb p hp]]
    simp
theorem kvp_mem {key : Nat → ByteArray} {val : Nat → Int} {bs : List Nat} {p : ByteArray × Int} (h : p ∈ kvp key val bs) : ∃ a ∈ bs, p = (key a, val a) := by
  obtain ⟨a, ha, e⟩ := List.mem_map.1 h
  exact ⟨a, ha, e.symm⟩
/-- a key is there, once, or not -/
theorem CacheAt.ways {w : World} {c m h : Nat} {bs : List Nat} {key : Nat → ByteArray} {val : Nat → Int} {most hits gets : Int} (H : CacheAt NT CT w c m h bs key val most hits gets) (k : ByteArray) :
    (∀ a ∈ bs, key a ≠ k) ∨ ∃ pre x post, bs = pre ++ x :: post ∧ key x = k ∧ ∀ a ∈ pre ++ post, key a ≠ k := by
  obtain ⟨l, hl, hp⟩ := H.map
  rcases ents_find hp hl.nodup k with ⟨_, h⟩ | ⟨pre, x, post, e, h1, _, h3⟩
  · exact .inl h
  · exact .inr ⟨pre, x, post, e, h1, h3⟩
theorem kvp_nodup {w : World} {c m h : Nat} {bs : List Nat} {key : Nat → ByteArray} {val : Nat → Int} {most hits gets : Int} (H : CacheAt NT CT w c m h bs key val most hits gets) : ((kvp key val bs).map (·.1)).Nodup := by
  obtain ⟨l, hl, hp⟩ := H.map
  have hnk := (hp.map (·.1)).nodup_iff.1 hl.nodup
  rw [ents_keys] at hnk
  unfold kvp
  rw [List.map_map]
  exact hnk
theorem Cac.nodup {w : World} {S : List Nat} {c : Nat} {l : PL} {most hits gets : Int} (H : Cac w S c l most hits gets) : (l.map (·.1)).Nodup := by
  obtain ⟨m, h, bs, key, val, _, H, rfl⟩ := H
  exact kvp_nodup H
theorem Cac.of_blocks {w w' : World} {S : List Nat} {c : Nat} {l : PL} {most hits gets : Int} (H : Cac w S c l most hits gets) (e : ∀ a ∈ S, w'.heap[a]? = w.heap[a]?) : Cac w' S c l most hits gets := by
  obtain ⟨m, h, bs, key, val, rfl, H, hl⟩ := H
  exact ⟨m, h, bs, key, val, rfl, H.of_blocks e, hl⟩
theorem Cac.lt {w : World} {S : List Nat} {c : Nat} {l : PL} {most hits gets : Int} (H : Cac w S c l most hits gets) : ∀ a ∈ S, a < w.heap.size := by
  obtain ⟨m, h, bs, key, val, rfl, H, hl⟩ := H
  exact H.apart.2
theorem Cac.touch {w w' : World} {S S' : List Nat} {c : Nat} {l : PL} {most hits gets : Int} (H : Cac w S c l most hits gets) (t : Touch S' w w') (d : ∀ a ∈ S, a ∉ S') : Cac w' S c l most hits gets :=
  H.of_blocks fun a ha => t.block a (H.lt a ha) (d a ha)
def lgot (l : PL) (k : ByteArray) : PL := match lfind l k with | some v => luse l k v | none => l
def GetAt (w : World) (S : List Nat) (c : Nat) (l : PL) (most hits gets : Int) (k : ByteArray) (e : Ending) (w' : World) : Prop :=
  e = .returned (.tuple #[.int .i64 ((lfind l k).getD 0), .bool (lfind l k).isSome]) ∧ ∃ S', Cac w' S' c (lgot l k) most (hits + if (lfind l k).isSome then 1 else 0) (gets + 1) ∧ Touch S w w' ∧ Foot w S S'
theorem C_get {S : List Nat} {c : Nat} {l : PL} {most hits gets : Int} (w : World) (H : Cac w S c l most hits gets) (k : ByteArray) (g0 : 0 ≤ gets) (g1 : gets ≤ 1000000000) (g2 : 0 ≤ hits) (g3 : hits ≤ 1000000000) :
    Calls Try.prog 15 #[ptr c, .string k] w (GetAt w S c l most hits gets k) := by
  obtain ⟨m, h, bs, key, val, rfl, H, rfl⟩ := H
  rcases H.ways k with hno | ⟨pre, x, post, rfl, hk, hno⟩
  · have e1 : ∀ p ∈ kvp key val bs, p.1 ≠ k := fun p hp => by
      obtain ⟨a, ha, rfl⟩ := kvp_mem hp
      exact hno a ha
    have e2 := lfind_none e1
    refine (C_get_miss w H k hno g0 g1).mono fun e w' ⟨he, h1, h2, h3⟩ => ⟨by rw [e2]; exact he, c :: m :: h :: bs, ?_, h2.mono (by grind), fun a ha => .inl ha⟩
    unfold lgot
    rw [e2]
    exact ⟨m, h, bs, key, val, rfl, by simpa using h1, rfl⟩
  · have e0 : kvp key val (pre ++ x :: post) = kvp key val pre ++ (k, val x) :: kvp key val post := by simp [kvp, hk]
    have e1 : ∀ p ∈ kvp key val pre ++ kvp key val post, p.1 ≠ k := fun p hp => by
      have : p ∈ kvp key val (pre ++ post) := by simpa [kvp] using hp
      obtain ⟨a, ha, rfl⟩ := kvp_mem this
      exact hno a ha
    obtain ⟨e2, e3⟩ := split_some (u := val x) e1
    rw [← e0] at e2 e3
    refine (C_get_hit w H k hk g0 g1 g2 g3).mono fun e w' ⟨he, h1, h2, h3⟩ => ⟨by rw [e2]; exact he, c :: m :: h :: x :: (pre ++ post), ?_, h2.mono (by grind), fun a ha => .inl (by grind)⟩
    unfold lgot
    rw [e2]
    refine ⟨m, h, x :: (pre ++ post), key, val, rfl, by simpa using h1, ?_⟩
    show _ = luse _ _ _
    rw [e3]
    simp [kvp, hk]
def PutAt (w : World) (S : List Nat) (c : Nat) (l : PL) (most hits gets : Int) (k : ByteArray) (v : Int) (e : Ending) (w' : World) : Prop :=
  e = .returned (.tuple #[]) ∧ ∃ S', Cac w' S' c ((luse l k v).take most.toNat) most hits gets ∧ Touch S w w' ∧ Foot w S S'
theorem upd_kvp {key : Nat → ByteArray} {val : Nat → Int} {bs : List Nat} {x : Nat} {k : ByteArray} {v : Int} (h : x ∉ bs) : kvp (updK key x k) (updV val x v) (x :: bs) = (k, v) :: kvp key val bs := by
  have := kvp_other (key := key) (val := val) (k := k) (v := v) h
  unfold kvp at this ⊢
  rw [List.map_cons, this]
  simp [updK, updV]
theorem C_put {S : List Nat} {c : Nat} {l : PL} {most hits gets : Int} (w : World) (H : Cac w S c l most hits gets) (k : ByteArray) (v : Int) (h1 : 1 ≤ most) (hlen : (l.length : Int) ≤ most) :
    Calls Try.prog 12 #[ptr c, .string k, .int .i64 v] w (PutAt w S c l most hits gets k v) := by
  obtain ⟨m, h, bs, key, val, rfl, H, rfl⟩ := H
  have hl : (kvp key val bs).length = bs.length := by simp [kvp]
  rw [hl] at hlen
  have hnew : ∀ {l : List Nat}, (∀ a ∈ l, a ∈ bs) → w.heap.size ∉ l := fun hs hm => Nat.lt_irrefl _ (H.apart.2 _ (by have := hs _ hm; simp [this]))
  rcases H.ways k with hno | ⟨pre, x, post, rfl, hk, hno⟩
  · have e1 : ∀ p ∈ kvp key val bs, p.1 ≠ k := fun p hp => by
      obtain ⟨a, ha, rfl⟩ := kvp_mem hp
      exact hno a ha
    by_cases hr : (bs.length : Int) + 1 ≤ most
    · refine (C_put_room w H k v hno hr).mono fun e w' ⟨he, g1, g2⟩ => ⟨he, c :: m :: h :: w.heap.size :: bs, ⟨m, h, w.heap.size :: bs, _, _, rfl, g1, ?_⟩, g2, fun a ha => by grind⟩
      rw [upd_kvp (hnew fun a ha => ha), luse_none e1, List.take_of_length_le (by rw [List.length_cons, hl]; omega)]
    · obtain ⟨bs0, z, rfl⟩ : ∃ bs0 z, bs = bs0 ++ [z] := by
        rcases List.eq_nil_or_concat bs with rfl | ⟨l, b, e⟩
        · simp at hr; omega
        · exact ⟨l, b, by simpa using e⟩
      refine (C_put_full w rfl H k v hno (by omega)).mono fun e w' ⟨he, g1, g2⟩ => ⟨he, c :: m :: h :: w.heap.size :: bs0, ⟨m, h, w.heap.size :: bs0, _, _, rfl, g1, ?_⟩, g2, fun a ha => by grind⟩
      rw [upd_kvp (hnew fun a ha => by simp [ha]), luse_none e1]
      have e3 : (k, v) :: kvp key val (bs0 ++ [z]) = ((k, v) :: kvp key val bs0) ++ [(key z, val z)] := by simp [kvp]
      rw [e3, List.take_left' (by
        rw [List.length_cons]
        have : (kvp key val bs0).length = bs0.length := by simp [kvp]
        simp at hr hlen
        omega)]
  · have e0 : kvp key val (pre ++ x :: post) = kvp key val pre ++ (k, val x) :: kvp key val post := by simp [kvp, hk]
    have e1 : ∀ p ∈ kvp key val pre ++ kvp key val post, p.1 ≠ k := fun p hp => by
      have : p ∈ kvp key val (pre ++ post) := by simpa [kvp] using hp
      obtain ⟨a, ha, rfl⟩ := kvp_mem this
      exact hno a ha
    obtain ⟨e2, e3⟩ := split_some (u := val x) e1
    rw [← e0] at e3
    refine (C_put_found w H k v hk hlen).mono fun e w' ⟨he, g1, g2⟩ => ⟨he, c :: m :: h :: w.heap.size :: (pre ++ post), ⟨m, h, w.heap.size :: (pre ++ post), _, _, rfl, g1, ?_⟩, g2.mono (by grind), fun a ha => by grind⟩
    rw [upd_kvp (hnew fun a ha => by grind), e3, List.take_of_length_le (by
      have : (kvp key val pre ++ kvp key val post).length + 1 = (pre ++ x :: post).length := by simp [kvp]; omega
      rw [List.length_cons, this]
      omega)]
    simp [kvp]
set_option maxHeartbeats 4000000 in
set_option maxRecDepth 100000 in
theorem C_len {S : List Nat} {c : Nat} {l : PL} {most hits gets : Int} (w : World) (H : Cac w S c l most hits gets) :
    Calls Try.prog 11 #[ptr c] w fun e w' => e = .returned (.int .i64 l.length) ∧ w = w' := by
  obtain ⟨m, h, bs, key, val, rfl, H, rfl⟩ := H
  obtain ⟨l', hl, hp⟩ := H.map
  obtain ⟨n, hn⟩ : ∃ n, (kvp key val bs).length = n := ⟨_, rfl⟩
  have hl0 := len_ok (n := n) hl (by rw [hp.length_eq, ← hn]; simp [ents, kvp]) 0
  have c0 := cell_of_row _ _ 0 _ _ _ H.cell
  rw [hn]
  clear hl hp hn H
  have e0 : w.drewN 0 = w := rfl
  rw [e0] at hl0
  clear e0
  go_enter Try.func11, Try.ntmps11
  go_wp2
  go_ret
  exact ⟨rfl, rfl⟩
end Go.Proofs.Ytphfomnjhlfdhaa.Cod
