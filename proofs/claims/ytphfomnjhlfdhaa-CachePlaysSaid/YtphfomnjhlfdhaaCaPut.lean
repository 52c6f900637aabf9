/- cache: Put: the walk. -/
import Derived.Test.YtphfomnjhlfdhaaCaGet
import Derived.Deep.QuietTactic
import Derived.BigQuiet
namespace Go.Proofs.Ytphfomnjhlfdhaa.Cod
open Go.RowKit
abbrev put4 (k : ByteArray) (v : Int) : Obj := .cells #[.string k, .int .i64 v, .pointer none, .pointer none] NT (0, 0)
/-- the new node, the store to the map: what becomes of the rest -/
theorem put_mid {c m h : Nat} {bs : List Nat} {key : Nat → ByteArray} {val : Nat → Int} {most hits gets : Int} {w1 : World} {l : List KV} (k : ByteArray) (v : Int)
    (b1 : w1.heap[c]? = some (ccells m h most hits gets)) (M1 : MapAt w1 m l) (R1 : RingAt w1 h bs key val) (hcm : m ≠ c) (hmr : m ∉ h :: bs) :
    ∃ w3, (Instr.mapUpdate MT (.map (some m)) (.string k) (ptr w1.heap.size)).run Try.prog (w1.alloc (put4 k v)) = .ok () w3 ∧ (w1.alloc (put4 k v)).cell? ⟨c, 0, none⟩ = some (.map (some m)) ∧
      w3.heap[c]? = some (ccells m h most hits gets) ∧ MapAt w3 m (kput l k (ptr w1.heap.size)) ∧ RingAt w3 h bs (updK key w1.heap.size k) (updV val w1.heap.size v) ∧ Nd w3 w1.heap.size (updK key w1.heap.size k w1.heap.size) (updV val w1.heap.size v w1.heap.size) ∧
      w1.heap.size ∉ h :: bs ∧ Touch [m] w1 w3 ∧ w3.heap.size = w1.heap.size + 1 := by
  have lc := (Array.getElem?_eq_some_iff.1 b1).1
  have lm := M1.lt
  have lr := R1.lt
  have old : ∀ a, a < w1.heap.size → (w1.alloc (put4 k v)).heap[a]? = w1.heap[a]? := fun a ha => Below.heap_alloc w1 _ a ha
  obtain ⟨o, ho, hM⟩ := run_kput und_mt und_str (M1.of_block (old m lm)) k (ptr w1.heap.size)
  have oth : ∀ a, a ≠ m → ({ w1.alloc (put4 k v) with heap := (w1.alloc (put4 k v)).heap.setIfInBounds m o } : World).heap[a]? = (w1.alloc (put4 k v)).heap[a]? := fun a ha => Array.getElem?_setIfInBounds_ne (fun e => ha e.symm)
  have hy : w1.heap.size ∉ h :: bs := fun e => Nat.lt_irrefl _ (lr _ e)
  refine ⟨_, ho, ?_, (oth c hcm.symm).trans ((old c lc).trans b1), hM, ?_, ⟨.pointer none, .pointer none, ?_⟩, hy, ?_, by simp⟩
  · rw [cell_of_row _ _ _ _ _ _ ((old c lc).trans b1)]; rfl
  · refine (R1.of_blocks (w' := { w1.alloc (put4 k v) with heap := (w1.alloc (put4 k v)).heap.setIfInBounds m o }) fun a ha => (oth a fun e => hmr (e ▸ ha)).trans (old a (lr a ha))).congr fun a ha => ?_
    have : a ≠ w1.heap.size := fun e => hy (e ▸ ha)
    simp [updK, updV, this]
  · have e1 : updK key w1.heap.size k w1.heap.size = k := by simp [updK]
    have e2 : updV val w1.heap.size v w1.heap.size = v := by simp [updV]
    rw [e1, e2]
    exact (oth _ (by omega)).trans (push_new rfl)
  · exact ((Touch.refl _ _).alloc _).setBlock (.inl (by simp)) o
theorem ents_keys (key : Nat → ByteArray) (bs : List Nat) : (ents key bs).map (·.1) = bs.map key := by
  unfold ents
  rw [List.map_map]
  rfl
theorem len_ok {w : World} {m : Nat} {l : List KV} {n : Nat} (h : MapAt w m l) (hn : l.length = n) (q : Nat) : (Builtin.len_ #[MT] 3 #[.map (some m)]).run Try.prog (w.drewN q) = .ok (.int .i64 n) (w.drewN q) := by
  subst hn
  exact run_klen und_mt (h.of_block (w' := w.drewN q) rfl) #[MT] rfl 3
set_option maxHeartbeats 4000000 in
set_option maxRecDepth 100000 in
theorem C_put_found {c m h x : Nat} {pre post : List Nat} {key : Nat → ByteArray} {val : Nat → Int} {most hits gets : Int} (w : World) (H : CacheAt NT CT w c m h (pre ++ x :: post) key val most hits gets) (k : ByteArray) (v : Int) (hk : key x = k) (hmost : ((pre ++ x :: post).length : Int) ≤ most) :
    Calls Try.prog 12 #[ptr c, .string k, .int .i64 v] w fun e w' => e = .returned (.tuple #[]) ∧ CacheAt NT CT w' c m h (w.heap.size :: (pre ++ post)) (updK key w.heap.size k) (updV val w.heap.size v) most hits gets ∧ Touch (c :: m :: h :: (pre ++ post)) w w' := by
  obtain ⟨hnd, hlt⟩ := H.apart
  have hcm : m ≠ c := fun e => by subst e; simp at hnd
  have pm : (pre ++ x :: post).Perm (x :: (pre ++ post)) := List.perm_middle
  have nd : (c :: m :: h :: x :: (pre ++ post)).Nodup := ((((pm.cons h).cons m).cons c).nodup_iff).1 hnd
  have hcx : c ∉ h :: x :: (pre ++ post) := fun e => (List.nodup_cons.1 nd).1 (List.mem_cons_of_mem _ e)
  have hmx : m ∉ h :: x :: (pre ++ post) := (List.nodup_cons.1 (List.nodup_cons.1 nd).2).1
  obtain ⟨l, hl, hp⟩ := H.map
  have hfx : kfind l k = some (ptr x) ∧ ∀ a ∈ pre ++ post, key a ≠ k := by
    have hnk := (hp.map (·.1)).nodup_iff.1 hl.nodup
    rw [ents_keys] at hnk
    have hn3 := (pm.map key).nodup_iff.1 hnk
    rw [List.map_cons, List.nodup_cons] at hn3
    have hno : ∀ a ∈ pre ++ post, key a ≠ k := fun a ha e => hn3.1 (by rw [hk, ← e]; exact List.mem_map.2 ⟨a, ha, rfl⟩)
    rcases ents_find hp hl.nodup k with ⟨_, h⟩ | ⟨pre', x', post', e, h1, h2, h3⟩
    · exact absurd hk (h x (by simp))
    · have hx' : x' ∈ pre ++ x :: post := by rw [e]; simp
      rcases List.mem_cons.1 (pm.mem_iff.1 hx') with e2 | e2
      · exact ⟨by rw [← e2]; exact h2, hno⟩
      · exact absurd h1 (hno x' e2)
  obtain ⟨hf, hno⟩ := hfx
  have hlk := look_ok hl k
  rw [hf] at hlk
  have c0 := cell_of_row _ _ 0 _ _ _ H.cell
  simp only [Option.getD_some, Option.isSome_some] at hlk
  obtain ⟨n, hn⟩ : ∃ n, (pre ++ x :: post).length = n := ⟨_, rfl⟩
  rw [hn] at hmost
  have hlen : ∀ y, (kput l k (ptr y)).length = n := fun y => by
    rw [kput_some hf, List.length_map, hp.length_eq, ← hn]; simp [ents]
  have HH := Lib.hid H
  have HL := Lib.hid hl
  have HP := Lib.hid hp
  have HF := Lib.hid hf
  have HK := Lib.hid hk
  have HNO := Lib.hid hno
  have HNC := Lib.hid hcx
  have HNM := Lib.hid hmx
  have HCM := Lib.hid hcm
  have HLEN := Lib.hid hlen
  have HLT := Lib.hid hlt
  have HMO := Lib.hid hmost
  have hR : RingAt w h (pre ++ x :: post) key val := H.ring
  have HR := Lib.hid hR
  clear H hl hp hnd hlt hk hf hcm pm nd hcx hmx hno hlen hR hmost hn
  go_enter Try.func12, Try.ntmps12
  go_wp2_with fail
  go_at_call 19
  with_reducible refine (C_out' _ HR.out).mono ?_
  rintro e w1 ⟨rfl, r1, n1, t1, s1⟩
  have b1 : w1.heap[c]? = some (ccells m h most hits gets) := (t1.block c (HLT.out c (by simp)) (fun e => HNC.out (by grind))).trans HH.out.cell
  have M1 := HL.out.of_block (t1.block m HL.out.lt (fun e => HNM.out (by grind)))
  obtain ⟨w3, hmu, c10, b3, M3, R3, N3, y3, T3, z3⟩ := put_mid k v b1 M1 r1 HCM.out (fun e => HNM.out (by grind))
  have T1 := Lib.hid (t1.mono (S' := c :: m :: h :: (pre ++ post)) (by grind))
  have T13 := Lib.hid (T1.out.trans (T3.mono (by grind)))
  have B3 := Lib.hid b3
  have HM3 := Lib.hid M3
  have HR3 := Lib.hid R3
  have HN3 := Lib.hid N3
  have HY3 := Lib.hid y3
  have S1 := Lib.hid s1
  clear b1 M1 r1 n1 t1 s1 b3 M3 R3 N3 y3 T3 z3 hlk c0
  go_wp2_with fail
  go_at_call 20
  with_reducible refine (C_front' _ B3.out HR3.out HN3.out HY3.out).mono ?_
  rintro e w4 ⟨rfl, r4, t4, s4⟩
  have b4 : w4.heap[c]? = some (ccells m h most hits gets) := (t4.block c (Array.getElem?_eq_some_iff.1 B3.out).1 (fun e => by
    have := (Array.getElem?_eq_some_iff.1 HH.out.cell).1
    have := S1.out
    have := HNC.out
    grind)).trans B3.out
  have M4 := HM3.out.of_block (t4.block m HM3.out.lt (fun e => by
    have := HL.out.lt
    have := S1.out
    have := HNM.out
    grind))
  have hl4 := len_ok M4 (HLEN.out _)
  have c40 := cell_of_row _ _ 0 _ _ _ b4
  have c42 := cell_of_row _ _ 2 _ _ _ b4
  have hmo := HMO.out
  have B4 := Lib.hid b4
  have HM4 := Lib.hid M4
  have HR4 := Lib.hid r4
  have T4 := Lib.hid (((T13.out.mono (S' := w1.heap.size :: c :: m :: h :: (pre ++ post)) (by grind)).trans (t4.mono (by grind))).strike (S' := c :: m :: h :: (pre ++ post)) (fun a ha => by
    have := S1.out
    grind))
  clear b4 M4 r4 t4 s4 hmu c10
  go_wp2_with fail
  go_quiet (fail)
  go_wp2
  go_end0
  rw [S1.out] at HM4 HR4
  refine ⟨rfl, ⟨B4.out, ⟨_, HM4.out.of_block rfl, ?_⟩, (show RingAt _ h _ _ _ from HR4.out).of_blocks fun a _ => rfl⟩, ?_⟩
  · exact ents_put_some HP.out HF.out HK.out HNO.out (fun e => Nat.lt_irrefl _ (HLT.out _ (by grind)))
  · exact T4.out.trans ⟨rfl, rfl, rfl, Nat.le_refl _, fun _ _ _ => rfl⟩
set_option maxHeartbeats 4000000 in
set_option maxRecDepth 100000 in
theorem C_put_room {c m h : Nat} {bs : List Nat} {key : Nat → ByteArray} {val : Nat → Int} {most hits gets : Int} (w : World) (H : CacheAt NT CT w c m h bs key val most hits gets) (k : ByteArray) (v : Int) (hk : ∀ a ∈ bs, key a ≠ k) (hmost : (bs.length : Int) + 1 ≤ most) :
    Calls Try.prog 12 #[ptr c, .string k, .int .i64 v] w fun e w' => e = .returned (.tuple #[]) ∧ CacheAt NT CT w' c m h (w.heap.size :: bs) (updK key w.heap.size k) (updV val w.heap.size v) most hits gets ∧ Touch (c :: m :: h :: bs) w w' := by
  obtain ⟨hnd, hlt⟩ := H.apart
  have hcm : m ≠ c := fun e => by subst e; simp at hnd
  have hcx : c ∉ h :: bs := fun e => (List.nodup_cons.1 hnd).1 (List.mem_cons_of_mem _ e)
  have hmx : m ∉ h :: bs := (List.nodup_cons.1 (List.nodup_cons.1 hnd).2).1
  obtain ⟨l, hl, hp⟩ := H.map
  have hf : kfind l k = none := by
    rcases ents_find hp hl.nodup k with ⟨h, _⟩ | ⟨pre, x, post, e, h1, _⟩
    · exact h
    · exact absurd h1 (hk x (by rw [e]; simp))
  have hlk := look_ok hl k
  rw [hf] at hlk
  have c0 := cell_of_row _ _ 0 _ _ _ H.cell
  simp only [Option.getD_none, Option.isSome_none] at hlk
  obtain ⟨n, hn⟩ : ∃ n, bs.length + 1 = n := ⟨_, rfl⟩
  have hlen : ∀ y, (kput l k (ptr y)).length = n := fun y => by
    rw [kput_none hf, List.length_append, hp.length_eq, ← hn]; simp [ents]
  obtain ⟨w3, hmu, c10, b3, M3, R3, N3, y3, T3, z3⟩ := put_mid k v H.cell hl (show RingAt w h bs key val from H.ring) hcm hmx
  have HP := Lib.hid hp
  have HF := Lib.hid hf
  have HLEN := Lib.hid hlen
  have HLT := Lib.hid hlt
  have HND := Lib.hid hnd
  have HNC := Lib.hid hcx
  have HNM := Lib.hid hmx
  have hsz := Lib.hid z3
  have B3 := Lib.hid b3
  have HM3 := Lib.hid M3
  have HR3 := Lib.hid R3
  have HN3 := Lib.hid N3
  have HY3 := Lib.hid y3
  have T13 := Lib.hid (T3.mono (S' := c :: m :: h :: bs) (by grind))
  have hm2 : (n : Int) ≤ most := by omega
  have HMO := Lib.hid hm2
  clear H hl hp hnd hlt hf hcm hcx hmx hlen b3 M3 R3 N3 y3 T3 z3 hmost hm2 hn hk
  go_enter Try.func12, Try.ntmps12
  go_wp2_with fail
  go_at_call 20
  with_reducible refine (C_front' _ B3.out HR3.out HN3.out HY3.out).mono ?_
  rintro e w4 ⟨rfl, r4, t4, s4⟩
  have b4 : w4.heap[c]? = some (ccells m h most hits gets) := (t4.block c (Array.getElem?_eq_some_iff.1 B3.out).1 (fun e => by
    have := HLT.out c (by simp)
    have := HNC.out
    grind)).trans B3.out
  have M4 := HM3.out.of_block (t4.block m HM3.out.lt (fun e => by
    have := HLT.out m (by simp)
    have := HNM.out
    grind))
  have hl4 := len_ok M4 (HLEN.out _)
  have c40 := cell_of_row _ _ 0 _ _ _ b4
  have c41 := cell_of_row _ _ 1 _ _ _ b4
  have c42 := cell_of_row _ _ 2 _ _ _ b4
  have hmo := HMO.out
  have B4 := Lib.hid b4
  have HM4 := Lib.hid M4
  have HR4 := Lib.hid r4
  have T4 := Lib.hid (((T13.out.mono (S' := w.heap.size :: c :: m :: h :: bs) (by grind)).trans (t4.mono (by grind))).strike (S' := c :: m :: h :: bs) (fun a ha => by grind))
  clear b4 M4 r4 t4 s4 hmu c10 c0 hlk
  go_wp2_with fail
  go_quiet (fail)
  go_wp2
  go_end0
  refine ⟨rfl, ⟨B4.out, ⟨_, HM4.out.of_block rfl, ?_⟩, (show RingAt _ h _ _ _ from HR4.out).of_blocks fun a _ => rfl⟩, ?_⟩
  · exact ents_put_none HP.out HF.out (fun e => HY3.out (by simp [e]))
  · exact T4.out.trans ⟨rfl, rfl, rfl, Nat.le_refl _, fun _ _ _ => rfl⟩
theorem ring_last {w : World} {h z : Nat} {bs : List Nat} {key : Nat → ByteArray} {val : Nat → Int} (H : RingAt w h (bs ++ [z]) key val) : w.cell? ⟨h, 2, none⟩ = some (ptr z) := by
  obtain ⟨nx, pv, r, hn⟩ := H
  have e := (ring_ends r).2
  have := hn h (by simp)
  rw [cell_of_row _ _ _ _ _ _ this]
  have e2 : (h :: (bs ++ [z])).getLast (List.cons_ne_nil _ _) = z := by
    rw [List.getLast_cons (by simp)]
    simp
  show some (ptr (pv h)) = _
  rw [e, e2]
set_option maxHeartbeats 4000000 in
set_option maxRecDepth 100000 in
theorem C_put_full {c m h z : Nat} {bs0 bs : List Nat} {key : Nat → ByteArray} {val : Nat → Int} {most hits gets : Int} (w : World) (hbs : bs = bs0 ++ [z]) (H : CacheAt NT CT w c m h bs key val most hits gets) (k : ByteArray) (v : Int) (hk : ∀ a ∈ bs, key a ≠ k) (hmost : (bs.length : Int) = most) :
    Calls Try.prog 12 #[ptr c, .string k, .int .i64 v] w fun e w' => e = .returned (.tuple #[]) ∧ CacheAt NT CT w' c m h (w.heap.size :: bs0) (updK key w.heap.size k) (updV val w.heap.size v) most hits gets ∧ Touch (c :: m :: h :: bs) w w' := by
  obtain ⟨hnd, hlt⟩ := H.apart
  have hcm : m ≠ c := fun e => by subst e; simp at hnd
  have hcx : c ∉ h :: bs := fun e => (List.nodup_cons.1 hnd).1 (List.mem_cons_of_mem _ e)
  have hmx : m ∉ h :: bs := (List.nodup_cons.1 (List.nodup_cons.1 hnd).2).1
  obtain ⟨l, hl, hp⟩ := H.map
  have hf : kfind l k = none := by
    rcases ents_find hp hl.nodup k with ⟨h, _⟩ | ⟨pre, x, post, e, h1, _⟩
    · exact h
    · exact absurd h1 (hk x (by rw [e]; simp))
  have hlk := look_ok hl k
  rw [hf] at hlk
  have c0 := cell_of_row _ _ 0 _ _ _ H.cell
  simp only [Option.getD_none, Option.isSome_none] at hlk
  obtain ⟨n, hn⟩ : ∃ n, bs.length + 1 = n := ⟨_, rfl⟩
  have hlen : ∀ y, (kput l k (ptr y)).length = n := fun y => by
    rw [kput_none hf, List.length_append, hp.length_eq, ← hn]; simp [ents]
  obtain ⟨w3, hmu, c10, b3, M3, R3, N3, y3, T3, z3⟩ := put_mid k v H.cell hl (show RingAt w h bs key val from H.ring) hcm hmx
  have HP := Lib.hid hp
  have HF := Lib.hid hf
  have HLEN := Lib.hid hlen
  have HLT := Lib.hid hlt
  have HND := Lib.hid hnd
  have HNC := Lib.hid hcx
  have HNM := Lib.hid hmx
  have hsz := Lib.hid z3
  have B3 := Lib.hid b3
  have HM3 := Lib.hid M3
  have HR3 := Lib.hid R3
  have HN3 := Lib.hid N3
  have HY3 := Lib.hid y3
  have T13 := Lib.hid (T3.mono (S' := c :: m :: h :: bs) (by grind))
  have hm2 : most < (n : Int) := by omega
  have HNCM := Lib.hid hcm
  have HMO := Lib.hid hm2
  have HBS := Lib.hid hbs
  clear H hl hp hnd hlt hf hcm hcx hmx hlen b3 M3 R3 N3 y3 T3 z3 hmost hm2 hn hk hbs
  go_enter Try.func12, Try.ntmps12
  go_wp2_with fail
  go_at_call 20
  with_reducible refine (C_front' _ B3.out HR3.out HN3.out HY3.out).mono ?_
  rintro e w4 ⟨rfl, r4, t4, s4⟩
  have b4 : w4.heap[c]? = some (ccells m h most hits gets) := (t4.block c (Array.getElem?_eq_some_iff.1 B3.out).1 (fun e => by
    have := HLT.out c (by simp)
    have := HNC.out
    grind)).trans B3.out
  have M4 := HM3.out.of_block (t4.block m HM3.out.lt (fun e => by
    have := HLT.out m (by simp)
    have := HNM.out
    grind))
  have hl4 := len_ok M4 (HLEN.out _)
  have c40 := cell_of_row _ _ 0 _ _ _ b4
  have c41 := cell_of_row _ _ 1 _ _ _ b4
  have c42 := cell_of_row _ _ 2 _ _ _ b4
  have hmo := HMO.out
  have B4 := Lib.hid b4
  have HM4 := Lib.hid M4
  have HR4 := Lib.hid r4
  have T4 := Lib.hid (((T13.out.mono (S' := w.heap.size :: c :: m :: h :: bs) (by grind)).trans (t4.mono (by grind))).strike (S' := c :: m :: h :: bs) (fun a ha => by grind))
  have ch2 := ring_last (bs := w.heap.size :: bs0) (z := z) (by rw [HBS.out] at r4; exact r4)
  clear b4 M4 r4 t4 s4 hmu c10 c0 hlk
  go_wp2_with fail
  go_quiet (fail)
  have r4y : RingAt w4 h ((w.heap.size :: bs0) ++ [z]) (updK key w.heap.size k) (updV val w.heap.size v) := by
    have := HR4.out
    rw [HBS.out] at this
    exact this
  have r4z := Lib.hid r4y
  clear r4y
  go_wp2_with fail
  go_at_call 19
  with_reducible refine (C_out' (pre := w.heap.size :: bs0) (post := []) (w4.drewN _) (r4z.out.of_blocks fun a _ => rfl)).mono ?_
  rintro e w5 ⟨rfl, r5, n5, t5, s5⟩
  rw [List.append_nil] at r5 t5
  have b5 : w5.heap[c]? = some (ccells m h most hits gets) := (t5.block c (Array.getElem?_eq_some_iff.1 B4.out).1 (fun e => by
    have := HLT.out c (by simp)
    have := HNC.out
    have := HBS.out
    grind)).trans B4.out
  have M5 := HM4.out.of_block (t5.block m HM4.out.lt (fun e => by
    have := HLT.out m (by simp)
    have := HNM.out
    have := HBS.out
    grind))
  obtain ⟨v2, v3, b5z⟩ := n5
  have c50 := cell_of_row _ _ 0 _ _ _ b5
  have c5z := cell_of_row _ _ 0 _ _ _ b5z
  have hzy : z ≠ w.heap.size := fun e => by
    have := HLT.out z (by rw [HBS.out]; simp)
    omega
  have ekz : updK key w.heap.size k z = key z := by simp [updK, hzy]
  rw [ekz] at c5z
  obtain ⟨o, hdel, M6⟩ := run_kdel und_mt und_str (M5.of_block (w' := w5.drew) rfl) (key z) #[MT, 9] rfl 0
  clear c40 c41 c42 hl4 ch2 hmo
  go_wp2_with fail
  refine region_fix3 [8] (fun _ _ _ => .tuple #[]) (fun _ W W' => W' = { W with heap := W.heap.setIfInBounds m o }) (by kernel_rfl) (by kernel_rfl) (fun _ W => ⟨_, rfl⟩) fun g g0 hG => ?_
  have e0 : g 1 = { g 0 with heap := (g 0).heap.setIfInBounds m o } := hG 0 (by decide)
  have hdel0 : (Builtin.delete_ #[MT, 9] 0 #[.map (some m), .string (key z)]).run Try.prog (g 0) = .ok (.tuple #[]) { g 0 with heap := (g 0).heap.setIfInBounds m o } := by rw [g0]; exact hdel
  have hc0 : (g 0).cell? ⟨c, 0, none⟩ = some (.map (some m)) := by rw [g0]; exact c50
  have hz0 : (g 0).cell? ⟨z, 0, none⟩ = some (.string (key z)) := by rw [g0]; exact c5z
  have G0 := Lib.hid g0
  have E0 := Lib.hid e0
  have HD := Lib.hid hdel0
  have HC0 := Lib.hid hc0
  have HZ0 := Lib.hid hz0
  have HG := Lib.hid hG
  clear g0 e0 hdel0 hc0 hz0 hG hdel c50 c5z
  refine fix3_step ?_ (by kernel_rfl) rfl (fun J s _ _ hJ => ?_) ?_
  rotate_left
  · go_simp
    exact hJ _ rfl
  intro J hJ
  go_simp
  refine hJ _ ?_
  clear hJ J
  refine fix3_step ?_ (by kernel_rfl) rfl (fun J s _ _ hJ => ?_) ?_
  rotate_left
  · go_simp
    exact hJ _ rfl
  intro J hJ
  go_simp
  refine hJ _ ?_
  clear hJ J
  refine fix3_step ?_ (by kernel_rfl) rfl (fun J s _ _ hJ => ?_) ?_
  rotate_left
  · go_simp
    exact hJ _ rfl
  intro J hJ
  go_simp
  refine hJ _ ?_
  clear hJ J
  refine fix3_mid ?_ 0 0 (by kernel_rfl) rfl (fun J s hl hs hJ => ?_) ?_
  rotate_left
  · obtain rfl : s = 0 := (by omega); have hc := HC0.out
    go_simp
    exact hJ _ rfl
  intro J hJ
  go_simp
  refine hJ _ ?_
  clear hJ J
  refine fix3_step ?_ (by kernel_rfl) rfl (fun J s _ _ hJ => ?_) ?_
  rotate_left
  · go_simp
    exact hJ _ rfl
  intro J hJ
  go_simp
  refine hJ _ ?_
  clear hJ J
  refine fix3_step ?_ (by kernel_rfl) rfl (fun J s _ _ hJ => ?_) ?_
  rotate_left
  · go_simp
    exact hJ _ rfl
  intro J hJ
  go_simp
  refine hJ _ ?_
  clear hJ J
  refine fix3_step ?_ (by kernel_rfl) rfl (fun J s _ _ hJ => ?_) ?_
  rotate_left
  · go_simp
    exact hJ _ rfl
  intro J hJ
  go_simp
  refine hJ _ ?_
  clear hJ J
  refine fix3_mid ?_ 0 0 (by kernel_rfl) rfl (fun J s hl hs hJ => ?_) ?_
  rotate_left
  · obtain rfl : s = 0 := (by omega); have hc := HZ0.out
    go_simp
    exact hJ _ rfl
  intro J hJ
  go_simp
  refine hJ _ ?_
  clear hJ J
  refine fix3_eff 0 (.tuple #[]) (rfl) (by kernel_rfl) rfl (fun J hJ => ?_) ?_
  · (have hd := HD.out; go_simp; exact hJ _ rfl)
  intro J hJ
  go_simp
  refine hJ _ ?_
  clear hJ J
  refine fix3_nil ?_
  have hg : g [8].length = g 1 := rfl
  rw [hg]
  go_end0
  have hno : ∀ a ∈ w.heap.size :: bs0, updK key w.heap.size k a ≠ updK key w.heap.size k z := by
    have hp1 := ents_put_none (k := k) HP.out HF.out (fun e => HY3.out (by simp [e]) : w.heap.size ∉ bs)
    have hnk := (hp1.map (·.1)).nodup_iff.1 HM4.out.nodup
    rw [ents_keys, HBS.out, List.map_cons, List.map_append] at hnk
    have hnk2 : (((w.heap.size :: bs0).map (updK key w.heap.size k)) ++ [updK key w.heap.size k z]).Nodup := by
      rw [List.map_cons, List.cons_append]
      exact hnk
    intro a ha e
    exact (List.nodup_append.1 hnk2).2.2 _ (List.mem_map.2 ⟨a, ha, rfl⟩) _ (by simp) e
  have hw6 : ∀ a, a ≠ m → (g 1).heap[a]? = w5.heap[a]? := fun a ha => by
    rw [E0.out, G0.out]
    exact Array.getElem?_setIfInBounds_ne (fun e => ha e.symm)
  have hM6 : MapAt (g 1) m (kdel (kput l k (ptr w.heap.size)) (key z)) := by rw [E0.out, G0.out]; exact M6
  refine ⟨rfl, ⟨(hw6 c (fun e => HNCM.out e.symm)).trans b5, ⟨_, hM6, ?_⟩, (show RingAt w5 h (w.heap.size :: bs0) (updK key w.heap.size k) (updV val w.heap.size v) from r5).of_blocks fun a ha => hw6 a fun e => ?_⟩, ?_⟩
  · have hp1 := ents_put_none (k := k) HP.out HF.out (fun e => HY3.out (by simp [e]) : w.heap.size ∉ bs)
    rw [HBS.out] at hp1
    have := ents_del (pre := w.heap.size :: bs0) (post := []) (y := z) hp1 (by rw [List.append_nil]; exact hno)
    rw [ekz, List.append_nil] at this
    exact this
  · have := HLT.out m (by simp)
    have := HNM.out
    have := HBS.out
    grind
  · have T5 : Touch (c :: m :: h :: bs) w w5 := (((T4.out.mono (S' := w.heap.size :: c :: m :: h :: bs) (by grind)).trans (⟨rfl, rfl, rfl, Nat.le_refl _, fun _ _ _ => rfl⟩ : Touch (w.heap.size :: c :: m :: h :: bs) w4 (w4.drewN _))).trans (t5.mono (by
      have := HBS.out
      grind))).strike (fun a ha => by grind)
    rw [E0.out, G0.out]
    exact T5.drew.setBlock (.inl (by simp)) o
end Go.Proofs.Ytphfomnjhlfdhaa.Cod
