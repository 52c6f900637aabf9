/- HeaderReads: the walk. -/
import Derived.Test.YtjcboohlgmfneaaDoorHAwake
import Derived.Test.YtjcboohlgmfneaaDoorRHParse
import Derived.Test.YtjcboohlgmfneaaDoorRef
namespace Go.Proofs.YtjcboohlgmfneaaDoor.Cod
open Go.RowKit
/-- a guarded load of a whole row -/
theorem wpList_load_row_when {P : Program} {ops : Array Oper} {rest : List Oper} {o : Oper} {a : Act} {w : World} {Q : Exit → Act → World → Prop} (hw : Region.wanted o (yielded ops a.tmps) = true) (ty : TypeId) (x : Operand) (ho : o.op = .load ty x)
    (g : Nat) (hx : a.eval x = .pointer (some ⟨g, 0, none⟩)) (t : TypeId) (cs : Array Value) (fr : Nat × Nat) (d : TypeDesc) (hg : w.heap[g]? = some (.cells cs t fr))
    (hu : P.underlying ty = some d) (hd : d.isRow = true) (hi : (P.info? ty).map (·.size) = some cs.size)
    (h : wpList P ops Q rest (a.put o.dst (.agg cs)) w) : wpList P ops Q (o :: rest) a w := by
  unfold wpList
  rw [if_pos hw]
  exact .inl (wp_load_row ty x ho g hx t cs fr d hg hu hd hi h)
theorem chk_fields (H : Hdr) (hc : H.chk = 0) : (1 ≤ H.height ∧ H.height ≤ 1073741824) ∧ (0 ≤ H.miner ∧ H.miner ≤ 63) ∧ (1 ≤ (H.ticket.size : Int) ∧ (H.ticket.size : Int) ≤ 8) ∧ (1 ≤ H.wins ∧ H.wins ≤ 15) ∧ (0 ≤ H.salt ∧ H.salt ≤ 1073741824) ∧ ¬ 4611686018427387904 < H.power := by
  have h5 : ¬ 5 < H.parents.length := fun h => by unfold Hdr.chk at hc; rw [if_pos h] at hc; cases hc
  have hg : H.good = true := by
    cases e : H.good with
    | true => rfl
    | false => rw [chk_bad H h5 e] at hc; cases hc
  unfold Hdr.good at hg
  simp only [Bool.and_eq_true, decide_eq_true_eq, Bool.not_eq_true', decide_eq_false_iff_not] at hg
  obtain ⟨g1, g2, g3, g4, g5, g6, g7, g8, _⟩ := hg
  exact ⟨g1, g2, g3, g4, g5, g7⟩
section
attribute [local irreducible] inNum inRaw rdI hd Hdr.chk inEnd p1 p2 p3 p4 p5 p8
theorem hres_len (l : List UInt8) : (hres l).1.parents.length ≤ 5 := by
  have h7 : (p7 l).1.length = (p6 l).1 := by rw [d7]; exact rdI_len _ _
  have h6 := inNum_big (m := 5) (by decide) (p5 l).2
  rw [← d6] at h6
  unfold hres
  split
  · simp [zeroH]
  · split
    · simp [zeroH]
    · show ((p7 l).1.map pad32).length ≤ 5
      rw [List.length_map]; omega
end
set_option maxHeartbeats 4000000 in
set_option maxRecDepth 100000 in
theorem W_HeaderReads (s0 : ByteArray) (hs0 : s0.size ≤ 140737488351232) (w : World) (hL : Laid w) :
    Calls Tryd.prog 3 #[.string s0] w fun e w' => e = .returned (.bool true) ∧ Below w.heap.size w w' := by
  have hcut := fun v => C_cut s0 260 (by omega) (by omega) hs0 v
  rw [show (260 : Int).toNat = 260 from rfl] at hcut
  obtain ⟨s, es⟩ : ∃ s, S ((bl s0).take 260) = s := ⟨_, rfl⟩
  simp only [es] at hcut
  have hs : s.size ≤ 260 := by rw [← es, S_size, List.length_take]; omega
  have hP := fun v => C_hparse s (by omega) v
  have hR := fun v => R_hparse s (by omega) v
  rw [← hres_eq] at hR
  have hlen := hres_len (bl s)
  have hback := hbytes_back (bl s)
  have hzero : (hres (bl s)).2 = 0 → (hres (bl s)).1.chk = 0 := fun h => by obtain ⟨h1, h2, _⟩ := hres_zero _ h; rw [h1]; exact h2
  have hA := C_awake5 w hL
  generalize hres (bl s) = R at hP hR hlen hback hzero
  obtain ⟨H, z⟩ := R
  simp only at hlen hback hzero
  have hSm := fun A A2 c c2 v hI hT => C_same H A A2 c c2 v hI hT (by omega)
  have hBy : z = 0 → ∀ A c v, IdsAt v A H.parents → Calls Tryd.prog 10 #[H.val A c] v fun e w' => e = .returned (.string s) ∧ Below v.heap.size v w' := fun hz A c v h => by
    obtain ⟨g1, g2, g3, g4, g5, g7⟩ := chk_fields H (hzero hz)
    have := C_hbytes H A c v h (by omega) (by omega) (by omega) (by omega) (by omega) (by omega) (by omega)
    rw [hback hz, S_bl] at this
    exact this
  have hCk : z = 0 → ∀ A c v, IdsAt v A H.parents → Calls Tryd.prog 11 #[H.val A c] v fun e w' => e = .returned (.int .i64 0) ∧ Below v.heap.size v w' := fun hz A c v h => by
    obtain ⟨g1, g2, g3, g4, g5, g7⟩ := chk_fields H (hzero hz)
    have := C_hcheck H A c v h (by omega) (by omega) (by omega)
    rw [hzero hz] at this
    exact this
  unfold HPost at hP
  unfold RPost at hR
  unfold Hdr.val at hP hR hSm hBy hCk
  clear hback hzero es hs hs0 hL
  obtain ⟨hh, mi, ti, wi, po, D, sa⟩ := H
  simp only at hP hR hSm hBy hCk hlen
  have infoH : (Tryd.prog.info? 27).map (·.size) = some 7 := by kernel_rfl
  have infoR : (Tryd.prog.info? 33).map (·.size) = some 7 := by kernel_rfl
  have HBY := Lib.hid hBy
  have HCK := Lib.hid hCk
  clear hBy hCk hlen
  by_cases hz : z = 0
  · subst hz
    have hBy := HBY.out rfl
    have hCk := HCK.out rfl
    clear HBY HCK
    go_enter Tryd.func3, Tryd.ntmps3
    go_wp2_with (first
      | (go_at_call 5; ((with_reducible refine hA.mono ?_); rintro e w1 ⟨rfl, f1⟩))
      | (go_at_call 6; ((with_reducible refine (hcut _).mono ?_); rintro e w1b ⟨rfl, rfl⟩))
      | (go_at_call 7; ((with_reducible refine (hP _).mono ?_); rintro e w2 ⟨A, c, rfl, i2, f2⟩; have b2 := f1.trans (f2.mono f1.size); have q2 := heap_alloc_new w2 (.cells #[.int .i64 hh, .int .i64 mi, .string ti, .int .i64 wi, .int .u64 (po : Int), .slice A D.length c, .int .i64 sa] 27); have i2a := i2.below ((Below.refl _ _).alloc (Nat.le_refl _) (.cells #[.int .i64 hh, .int .i64 mi, .string ti, .int .i64 wi, .int .u64 (po : Int), .slice A D.length c, .int .i64 sa] 27)); have b2a := b2.alloc b2.size (.cells #[.int .i64 hh, .int .i64 mi, .string ti, .int .i64 wi, .int .u64 (po : Int), .slice A D.length c, .int .i64 sa] 27)))
      | (go_at_call 8; ((with_reducible refine (hR _).mono ?_); rintro e w3 ⟨A2, c2, rfl, t3, f3⟩; have b3 := b2a.trans (f3.mono b2a.size); have q3 := (f3.block _ (Array.getElem?_eq_some_iff.1 q2).1).trans q2; have i3 := i2a.below f3; have hal := (Below.refl w3.heap.size w3).alloc (Nat.le_refl _) (.cells #[.int .i64 hh, .int .i64 mi, .string ti, .int .i64 wi, .int .u64 (po : Int), .slice A2 D.length c2, .int .i64 sa] 33); have q4 := (hal.block _ (Array.getElem?_eq_some_iff.1 q3).1).trans q3; have i4 := i3.below hal; have t4 := t3.below hal; have r4 := heap_alloc_new w3 (.cells #[.int .i64 hh, .int .i64 mi, .string ti, .int .i64 wi, .int .u64 (po : Int), .slice A2 D.length c2, .int .i64 sa] 33); have b4 := b3.alloc b3.size (.cells #[.int .i64 hh, .int .i64 mi, .string ti, .int .i64 wi, .int .u64 (po : Int), .slice A2 D.length c2, .int .i64 sa] 33); clear i2a i2 b2 b2a q2 i3 t3 q3 hal b3))
      | (refine wpList_load_row_when (by rfl) 27 (.tmp 3) (by rfl) w2.heap.size (by rfl) 27 #[.int .i64 hh, .int .i64 mi, .string ti, .int .i64 wi, .int .u64 (po : Int), .slice A D.length c, .int .i64 sa] (0, 0) _ q4 Tryd.underlying27 rfl infoH ?_)
      | (refine wpList_load_row_when (by rfl) 33 (.tmp 5) (by rfl) w3.heap.size (by rfl) 33 #[.int .i64 hh, .int .i64 mi, .string ti, .int .i64 wi, .int .u64 (po : Int), .slice A2 D.length c2, .int .i64 sa] (0, 0) _ r4 Tryd.underlying33 rfl infoR ?_)
      | (go_at_call 9; ((with_reducible refine (hSm _ _ _ _ _ i4 t4).mono ?_); rintro e w5 ⟨rfl, f5⟩; have b5 := b4.trans (f5.mono b4.size); have q5 := (f5.block _ (Array.getElem?_eq_some_iff.1 q4).1).trans q4; have i5 := i4.below f5; clear q4 i4 t4))
      | (refine wpList_load_row_when (by rfl) 27 (.tmp 3) (by rfl) w2.heap.size (by rfl) 27 #[.int .i64 hh, .int .i64 mi, .string ti, .int .i64 wi, .int .u64 (po : Int), .slice A D.length c, .int .i64 sa] (0, 0) _ q5 Tryd.underlying27 rfl infoH ?_)
      | (go_at_call 10; ((with_reducible refine (hBy _ _ _ i5).mono ?_); rintro e w6 ⟨rfl, f6⟩; have b6 := b5.trans (f6.mono b5.size); have q6 := (f6.block _ (Array.getElem?_eq_some_iff.1 q5).1).trans q5; have i6 := i5.below f6; clear q5 i5))
      | (refine wpList_load_row_when (by rfl) 27 (.tmp 3) (by rfl) w2.heap.size (by rfl) 27 #[.int .i64 hh, .int .i64 mi, .string ti, .int .i64 wi, .int .u64 (po : Int), .slice A D.length c, .int .i64 sa] (0, 0) _ q6 Tryd.underlying27 rfl infoH ?_)
      | (go_at_call 11; ((with_reducible refine (hCk _ _ _ i6).mono ?_); rintro e w7 ⟨rfl, f7⟩; have b7 := b6.trans (f7.mono b6.size))))
    go_ret
    exact ⟨rfl, b7⟩
  · have hzb : (z == 0) = false := by rw [beq_eq_false_iff_ne]; exact hz
    clear HBY HCK
    go_enter Tryd.func3, Tryd.ntmps3
    go_wp2_with (first
      | (go_at_call 5; ((with_reducible refine hA.mono ?_); rintro e w1 ⟨rfl, f1⟩))
      | (go_at_call 6; ((with_reducible refine (hcut _).mono ?_); rintro e w1b ⟨rfl, rfl⟩))
      | (go_at_call 7; ((with_reducible refine (hP _).mono ?_); rintro e w2 ⟨A, c, rfl, i2, f2⟩; have b2 := f1.trans (f2.mono f1.size); have q2 := heap_alloc_new w2 (.cells #[.int .i64 hh, .int .i64 mi, .string ti, .int .i64 wi, .int .u64 (po : Int), .slice A D.length c, .int .i64 sa] 27); have i2a := i2.below ((Below.refl _ _).alloc (Nat.le_refl _) (.cells #[.int .i64 hh, .int .i64 mi, .string ti, .int .i64 wi, .int .u64 (po : Int), .slice A D.length c, .int .i64 sa] 27)); have b2a := b2.alloc b2.size (.cells #[.int .i64 hh, .int .i64 mi, .string ti, .int .i64 wi, .int .u64 (po : Int), .slice A D.length c, .int .i64 sa] 27)))
      | (go_at_call 8; ((with_reducible refine (hR _).mono ?_); rintro e w3 ⟨A2, c2, rfl, t3, f3⟩; have b3 := b2a.trans (f3.mono b2a.size); have q3 := (f3.block _ (Array.getElem?_eq_some_iff.1 q2).1).trans q2; have i3 := i2a.below f3; have hal := (Below.refl w3.heap.size w3).alloc (Nat.le_refl _) (.cells #[.int .i64 hh, .int .i64 mi, .string ti, .int .i64 wi, .int .u64 (po : Int), .slice A2 D.length c2, .int .i64 sa] 33); have q4 := (hal.block _ (Array.getElem?_eq_some_iff.1 q3).1).trans q3; have i4 := i3.below hal; have t4 := t3.below hal; have r4 := heap_alloc_new w3 (.cells #[.int .i64 hh, .int .i64 mi, .string ti, .int .i64 wi, .int .u64 (po : Int), .slice A2 D.length c2, .int .i64 sa] 33); have b4 := b3.alloc b3.size (.cells #[.int .i64 hh, .int .i64 mi, .string ti, .int .i64 wi, .int .u64 (po : Int), .slice A2 D.length c2, .int .i64 sa] 33); clear i2a i2 b2 b2a q2 i3 t3 q3 hal b3))
      | (refine wpList_load_row_when (by rfl) 27 (.tmp 3) (by rfl) w2.heap.size (by rfl) 27 #[.int .i64 hh, .int .i64 mi, .string ti, .int .i64 wi, .int .u64 (po : Int), .slice A D.length c, .int .i64 sa] (0, 0) _ q4 Tryd.underlying27 rfl infoH ?_)
      | (refine wpList_load_row_when (by rfl) 33 (.tmp 5) (by rfl) w3.heap.size (by rfl) 33 #[.int .i64 hh, .int .i64 mi, .string ti, .int .i64 wi, .int .u64 (po : Int), .slice A2 D.length c2, .int .i64 sa] (0, 0) _ r4 Tryd.underlying33 rfl infoR ?_)
      | (go_at_call 9; ((with_reducible refine (hSm _ _ _ _ _ i4 t4).mono ?_); rintro e w5 ⟨rfl, f5⟩; have b5 := b4.trans (f5.mono b4.size); have q5 := (f5.block _ (Array.getElem?_eq_some_iff.1 q4).1).trans q4; have i5 := i4.below f5; clear q4 i4 t4)))
    go_ret
    exact ⟨rfl, b5⟩
end Go.Proofs.YtjcboohlgmfneaaDoor.Cod
