/- cache: Get: the walk. -/
import Derived.Test.YtphfomnjhlfdhaaCaRing
namespace Go.Proofs.Ytphfomnjhlfdhaa.Cod
open Go.RowKit
abbrev CT := 52
abbrev MT := 50
abbrev ccells (m h : Nat) (most hits gets : Int) : Obj := .cells #[.map (some m), ptr h, .int .i64 most, .int .i64 hits, .int .i64 gets] CT (0, 0)
theorem und_mt : Try.prog.underlying MT = some (.map 9 47) := by kernel_rfl
theorem und_str : Try.prog.underlying 9 = some .string := by kernel_rfl
theorem zero_pe (w : World) : (zeroValue 47).run Try.prog w = .ok (.pointer none) w := by kernel_rfl
theorem look_ok {w : World} {m : Nat} {l : List KV} (h : MapAt w m l) (k : ByteArray) : (Instr.lookup MT (.map (some m)) (.string k) true).run Try.prog w = .ok (.tuple #[(kfind l k).getD (.pointer none), .bool (kfind l k).isSome]) w :=
  (run_klookup und_mt und_str h (zero_pe w) k true)
theorem MapAt.set {w : World} {m c i : Nat} {l : List KV} (h : MapAt w m l) (hc : m ≠ c) (u : Value) : MapAt (w.setCell ⟨c, i, none⟩ u) m l := h.of_block (Below.heap_setCell w ⟨c, i, none⟩ u m hc)
set_option maxHeartbeats 4000000 in
set_option maxRecDepth 100000 in
theorem C_get_miss {c m h : Nat} {bs : List Nat} {key : Nat → ByteArray} {val : Nat → Int} {most hits gets : Int} (w : World) (H : CacheAt NT CT w c m h bs key val most hits gets) (k : ByteArray) (hk : ∀ a ∈ bs, key a ≠ k) (g0 : 0 ≤ gets) (g1 : gets ≤ 1000000000) :
    Calls Try.prog 15 #[ptr c, .string k] w fun e w' => e = .returned (.tuple #[.int .i64 0, .bool false]) ∧ CacheAt NT CT w' c m h bs key val most hits (gets + 1) ∧ Touch [c] w w' ∧ w'.heap.size = w.heap.size := by
  obtain ⟨hnd, hlt⟩ := H.apart
  have hcm : m ≠ c := fun e => by subst e; simp at hnd
  obtain ⟨l, hl, hp⟩ := H.map
  have hf : kfind l k = none := by
    rcases ents_find hp hl.nodup k with ⟨h, _⟩ | ⟨pre, x, post, e, h1, _⟩
    · exact h
    · exact absurd h1 (hk x (by rw [e]; simp))
  have hb := H.cell
  have hlk := look_ok (hl.set hcm (i := 4) (.int .i64 (gets + 1))) k
  rw [hf] at hlk
  have c0 := cell_of_row _ _ 0 _ _ _ hb
  have c4 := cell_of_row _ _ 4 _ _ _ hb
  have z0 := frozen_of_row _ _ 0 _ _ hb
  have z4 := frozen_of_row _ _ 4 _ _ hb
  simp only [Option.getD_none, Option.isSome_none] at hlk
  have HH := Lib.hid H
  have HB := Lib.hid hb
  have HN := Lib.hid hnd
  clear H hl hp hnd hlt hb hk hf
  unfold ptr at *
  go_enter Try.func15, Try.ntmps15
  go_wp2
  go_ret2
  refine ⟨rfl, ⟨?_, ?_, ?_⟩, (Touch.refl _ _).setCell (.inl (by simp)) _, by simp⟩
  · exact (set_cell HB.out _).trans rfl
  · obtain ⟨l, hl, hp⟩ := HH.out.map
    exact ⟨l, hl.set hcm _, hp⟩
  · exact (show RingAt w h bs key val from HH.out.ring).of_blocks fun a ha => Below.heap_setCell _ ⟨c, 4, none⟩ _ a fun e => (List.nodup_cons.1 HN.out).1 (by rw [← show a = c from e]; exact List.mem_cons_of_mem _ ha)
set_option maxHeartbeats 4000000 in
set_option maxRecDepth 100000 in
theorem C_get_hit {c m h x : Nat} {pre post : List Nat} {key : Nat → ByteArray} {val : Nat → Int} {most hits gets : Int} (w : World) (H : CacheAt NT CT w c m h (pre ++ x :: post) key val most hits gets) (k : ByteArray) (hk : key x = k) (g0 : 0 ≤ gets) (g1 : gets ≤ 1000000000) (g2 : 0 ≤ hits) (g3 : hits ≤ 1000000000) :
    Calls Try.prog 15 #[ptr c, .string k] w fun e w' => e = .returned (.tuple #[.int .i64 (val x), .bool true]) ∧ CacheAt NT CT w' c m h (x :: (pre ++ post)) key val most (hits + 1) (gets + 1) ∧ Touch (c :: h :: x :: (pre ++ post)) w w' ∧ w'.heap.size = w.heap.size := by
  obtain ⟨hnd, hlt⟩ := H.apart
  have hcm : m ≠ c := fun e => by subst e; simp at hnd
  have pm : (pre ++ x :: post).Perm (x :: (pre ++ post)) := List.perm_middle
  have nd : (c :: m :: h :: x :: (pre ++ post)).Nodup := ((((pm.cons h).cons m).cons c).nodup_iff).1 hnd
  have hcx : c ∉ h :: x :: (pre ++ post) := fun e => (List.nodup_cons.1 nd).1 (List.mem_cons_of_mem _ e)
  have hmx : m ∉ h :: x :: (pre ++ post) := (List.nodup_cons.1 (List.nodup_cons.1 nd).2).1
  have hxh : x ∉ h :: (pre ++ post) := by
    have h3 := (List.nodup_cons.1 (List.nodup_cons.1 nd).2).2
    intro e
    rcases List.mem_cons.1 e with e | e
    · exact (List.nodup_cons.1 h3).1 (by rw [e]; simp)
    · exact (List.nodup_cons.1 (List.nodup_cons.1 h3).2).1 e
  obtain ⟨l, hl, hp⟩ := H.map
  have hf : kfind l k = some (ptr x) := by
    rcases ents_find hp hl.nodup k with ⟨_, h⟩ | ⟨pre', x', post', e, h1, h2, h3⟩
    · exact absurd hk (h x (by simp))
    · have : x ∈ pre' ++ x' :: post' := by rw [← e]; simp
      rcases List.mem_append.1 this with h4 | h4
      · exact absurd hk (h3 x (by simp [h4]))
      · rcases List.mem_cons.1 h4 with h4 | h4
        · rw [h4]; exact h2
        · exact absurd hk (h3 x (by simp [h4]))
  have hb := H.cell
  have hlk := look_ok (hl.set hcm (i := 4) (.int .i64 (gets + 1))) k
  rw [hf] at hlk
  have c0 := cell_of_row _ _ 0 _ _ _ hb
  have c3 := cell_of_row _ _ 3 _ _ _ hb
  have c4 := cell_of_row _ _ 4 _ _ _ hb
  have z0 := frozen_of_row _ _ 0 _ _ hb
  have z3 := frozen_of_row _ _ 3 _ _ hb
  have z4 := frozen_of_row _ _ 4 _ _ hb
  simp only [Option.getD_some, Option.isSome_some] at hlk
  have hb1 : ((w.setCell ⟨c, 4, none⟩ (.int .i64 (gets + 1))).setCell ⟨c, 3, none⟩ (.int .i64 (hits + 1))).heap[c]? = some (ccells m h most (hits + 1) (gets + 1)) :=
    (set_cell (set_cell hb _) _).trans rfl
  have hoth : ∀ a, a ≠ c → ((w.setCell ⟨c, 4, none⟩ (.int .i64 (gets + 1))).setCell ⟨c, 3, none⟩ (.int .i64 (hits + 1))).heap[a]? = w.heap[a]? := fun a ha => (Below.heap_setCell _ ⟨c, 3, none⟩ _ a ha).trans (Below.heap_setCell _ ⟨c, 4, none⟩ _ a ha)
  have hT0 : Touch [c] w ((w.setCell ⟨c, 4, none⟩ (.int .i64 (gets + 1))).setCell ⟨c, 3, none⟩ (.int .i64 (hits + 1))) := ((Touch.refl _ _).setCell (.inl (by simp)) _).setCell (.inl (by simp)) _
  have hR : RingAt ((w.setCell ⟨c, 4, none⟩ (.int .i64 (gets + 1))).setCell ⟨c, 3, none⟩ (.int .i64 (hits + 1))) h (pre ++ x :: post) key val :=
    (show RingAt w h (pre ++ x :: post) key val from H.ring).of_blocks fun a ha => hoth a fun e => hcx (e ▸ (by
      simp only [List.mem_cons, List.mem_append] at ha ⊢
      rcases ha with e | e | e | e <;> simp [e]))
  have hclt : c < ((w.setCell ⟨c, 4, none⟩ (.int .i64 (gets + 1))).setCell ⟨c, 3, none⟩ (.int .i64 (hits + 1))).heap.size := by simp; exact hlt c (by simp)
  have hM : MapAt ((w.setCell ⟨c, 4, none⟩ (.int .i64 (gets + 1))).setCell ⟨c, 3, none⟩ (.int .i64 (hits + 1))) m l := (hl.set hcm _).set hcm _
  have HP := Lib.hid hp
  have HM := Lib.hid hM
  have HR := Lib.hid hR
  have HB := Lib.hid hb1
  have HT := Lib.hid hT0
  have HL := Lib.hid hclt
  have hs : ((w.setCell ⟨c, 4, none⟩ (.int .i64 (gets + 1))).setCell ⟨c, 3, none⟩ (.int .i64 (hits + 1))).heap.size = w.heap.size := by simp
  have HS := Lib.hid hs
  have HNC := Lib.hid hcx
  have HNM := Lib.hid hmx
  have HNX := Lib.hid hxh
  clear H hl hp hnd hlt hb hk hf hb1 hoth hT0 hR hclt hcm pm nd hcx hmx hxh hM hs
  unfold ptr at *
  go_enter Try.func15, Try.ntmps15
  go_wp2_with fail
  go_at_call 19
  with_reducible refine (C_out' _ HR.out).mono ?_
  rintro e w1 ⟨rfl, r1, n1, t1, s1⟩
  have b1 : w1.heap[c]? = some (ccells m h most (hits + 1) (gets + 1)) := (t1.block c HL.out (fun e => HNC.out (by grind))).trans HB.out
  have T1 := Lib.hid ((HT.out.mono (S' := c :: h :: x :: (pre ++ post)) (by grind)).trans (t1.mono (by grind)))
  have M1 := Lib.hid (HM.out.of_block (t1.block m HM.out.lt (fun e => HNM.out (by grind))))
  have B1 := Lib.hid b1
  have S1 := Lib.hid (s1.trans HS.out)
  have R1 := Lib.hid r1
  have N1 := Lib.hid n1
  clear b1 t1 s1 r1 n1 hlk c0 c3 c4 z0 z3 z4 HT HM HB HS HR HL
  go_wp2_with fail
  go_at_call 20
  with_reducible refine (C_front' _ B1.out R1.out N1.out HNX.out).mono ?_
  rintro e w2 ⟨rfl, r2, t2, s2⟩
  obtain ⟨p2, n2, nx2⟩ := r2.node (x := x) (by simp)
  have c2 := cell_of_row _ _ 1 _ _ _ nx2
  have b2 : w2.heap[c]? = some (ccells m h most (hits + 1) (gets + 1)) := (t2.block c (Array.getElem?_eq_some_iff.1 B1.out).1 (fun e => HNC.out (by grind))).trans B1.out
  have B2 := Lib.hid b2
  have T2 := Lib.hid (T1.out.trans (t2.mono (by grind)))
  have M2 := Lib.hid (M1.out.of_block (t2.block m M1.out.lt (fun e => HNM.out (by grind))))
  have S2 := Lib.hid (s2.trans S1.out)
  have R2 := Lib.hid r2
  clear b2 t2 s2 r2 B1 T1 M1 S1 R1 N1 nx2
  go_wp2
  go_ret2
  refine ⟨rfl, ⟨B2.out, ⟨l, M2.out, HP.out.trans ?_⟩, R2.out⟩, T2.out, S2.out⟩
  exact (List.perm_middle (l₁ := pre) (a := x) (l₂ := post)).map _
end Go.Proofs.Ytphfomnjhlfdhaa.Cod
