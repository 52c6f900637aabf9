/- law05.same of whatever two headers: the walk. -/
import Derived.Test.YtdpkodhfelnedaaDoorHSame
import Derived.WideShapes
namespace Go.Proofs.YtdpkodhfelnedaaDoor.Cod
open Go.RowKit
theorem tl_ne {s t : ByteArray} (h : s ≠ t) : s.toList ≠ t.toList := fun e => h (Go.WideShapes.bytes_inj (by rw [ByteArray.toList_eq, ByteArray.toList_eq] at e; exact e))
set_option maxHeartbeats 4000000 in
set_option maxRecDepth 100000 in
/-- alike but for the parents -/
theorem C_same_par (hh mi : Int) (ti : ByteArray) (wi : Int) (po : Nat) (sa : Int) (D E : List (List UInt8)) (hl : D.length = E.length) (hne : D ≠ E) (hE : ∀ x ∈ E, x.length = 32) (A A2 : Option Addr) (c c2 : Nat) (w : World) (hI : IdsAt w A D) (hT : TextsAt w A2 c2 (E.map S)) (hlen : D.length ≤ 1000000) :
    Calls Tryd.prog 8 #[Hdr.val ⟨hh, mi, ti, wi, po, D, sa⟩ A c, Hdr.val ⟨hh, mi, ti, wi, po, E, sa⟩ A2 c2] w fun e w' => e = .returned (.bool false) ∧ Below w.heap.size w w' := by
  unfold Hdr.val
  simp only
  rw [← hl]
  have HL := Lib.hid hl
  have HNE := Lib.hid hne
  have HE := Lib.hid hE
  clear hl hne hE
  go_enter Tryd.func8, Tryd.ntmps8
  go_wp2_with (fail)
  have z0 := heap_alloc2_old w (.cells #[.int .i64 hh, .int .i64 mi, .string ti, .int .i64 wi, .int .u64 (po : Int), .slice A D.length c, .int .i64 sa] 31) (.cells #[.int .i64 hh, .int .i64 mi, .string ti, .int .i64 wi, .int .u64 (po : Int), .slice A2 D.length c2, .int .i64 sa] 25)
  have b0 : Below w.heap.size w ((w.alloc (.cells #[.int .i64 hh, .int .i64 mi, .string ti, .int .i64 wi, .int .u64 (po : Int), .slice A D.length c, .int .i64 sa] 31)).alloc (.cells #[.int .i64 hh, .int .i64 mi, .string ti, .int .i64 wi, .int .u64 (po : Int), .slice A2 D.length c2, .int .i64 sa] 25)) := ((Below.refl _ _).alloc (Nat.le_refl _) _).alloc (by simp) _
  obtain ⟨wz, hwz⟩ : ∃ wz, (w.alloc (.cells #[.int .i64 hh, .int .i64 mi, .string ti, .int .i64 wi, .int .u64 (po : Int), .slice A D.length c, .int .i64 sa] 31)).alloc (.cells #[.int .i64 hh, .int .i64 mi, .string ti, .int .i64 wi, .int .u64 (po : Int), .slice A2 D.length c2, .int .i64 sa] 25) = wz := ⟨_, rfl⟩
  rw [hwz] at z0 b0 ⊢
  clear hwz
  go_loopw [59] (fun i wr => ∃ k : Nat, k ≤ D.length ∧ i = .int .i64 k ∧ Hid (∀ j < k, D[j]? = E[j]?) ∧ wr.heap[w.heap.size]? = some (.cells #[.int .i64 hh, .int .i64 mi, .string ti, .int .i64 wi, .int .u64 (po : Int), .slice A D.length c, .int .i64 sa] 31 (0, 0)) ∧ Below w.heap.size w wr) (fun i _ => D.length - (intOf i).toNat)
  case atStart => exact ⟨0, by omega, rfl, Lib.hid fun j hj => absurd hj (by omega), z0, b0⟩
  case round =>
    obtain ⟨k, hk, rfl, HP, hz, hb⟩ := hrel
    clear z0 b0
    by_cases hlt : k < D.length
    · obtain ⟨h32, gb, o, rfl, hgl, hrg⟩ := (hI.below hb) k hlt
      have hlE : k < E.length := by have := HL.out; omega
      obtain ⟨b2, o2, rfl, hb2, hc2⟩ := (hT.below hb).2 (by rw [List.length_map]; omega)
      have hlti : (k : Int) < (D.length : Int) := by omega
      have hk0 : (0 : Int) ≤ (k : Int) := by omega
      have hx := hc2 k (S E[k]) (by rw [List.getElem?_map, List.getElem?_eq_getElem hlE]; rfl)
      have h32e := HE.out E[k] (List.getElem_mem hlE)
      have hnext : D[k] = E[k] → ∀ j < k + 1, D[j]? = E[j]? := fun e j hj => by
        by_cases h : j < k
        · exact HP.out j h
        · obtain rfl : j = k := by omega
          rw [List.getElem?_eq_getElem hlt, List.getElem?_eq_getElem hlE, e]
      generalize D[k] = x at h32 hrg hnext
      generalize E[k] = y at h32e hx hnext
      have hid := fun v => C_idof (S y) (by rw [S_size]; exact h32e) v
      rw [bl_S] at hid
      have heq := fun W => eqId x y h32 h32e W 9998
      have hq : ∃ q, decide (x = y) = q := ⟨_, rfl⟩
      obtain ⟨q, hq⟩ := hq
      simp only [hq] at heq
      have hnq : q = true → ∀ j < k + 1, D[j]? = E[j]? := fun e => hnext (of_decide_eq_true (hq.trans e))
      have HN := Lib.hid hnq
      unfold idv at heq hid
      obtain ⟨X, eX⟩ : ∃ X, Lib.byteCells x = X := ⟨_, rfl⟩
      obtain ⟨Y, eY⟩ : ∃ Y, Lib.byteCells y = Y := ⟨_, rfl⟩
      have hXl : X.length = 32 := by rw [← eX, Lib.byteCells_length]; exact h32
      rw [eX] at hrg
      simp only [eX, eY] at heq hid
      have hiX : (Tryd.prog.info? 36).map (·.size) = some X.length := by rw [hXl]; kernel_rfl
      have HID := Lib.hid hid
      have HRG := Lib.hid hrg
      have HI := Lib.hid hI
      have HT := Lib.hid hT
      clear eX eY hc2 hid hrg hI hT hnext hnq hq
      go_upto_region 6 with (fail)
      refine region_fix3 [6] (fun _ _ _ => .agg Y.toArray) (fun _ W W' => Below W.heap.size W W') (by kernel_rfl) (by kernel_rfl) (fun _ W => ⟨W, Below.refl _ _⟩) fun g g0 hG => ?_
      have e0 : Below (g 0).heap.size (g 0) (g 1) := hG 0 (by decide)
      clear hG
      have f0 : Below wr.heap.size wr (g 0) := by rw [g0]; exact (Below.refl _ _).drew
      have f1 := f0.trans (e0.mono f0.size)
      have hw : ∀ j : Nat, j ≤ 1 → Below wr.heap.size wr (g j) := fun j hj => by
        rcases (by omega : j = 0 ∨ j = 1) with rfl | rfl
        · exact f0
        · exact f1
      have s0 := (Array.getElem?_eq_some_iff.1 hz).1
      have G0 := Lib.hid g0
      clear g0
      refine fix3_step ?_ (by kernel_rfl) rfl (fun J s _ _ hJ => ?_) ?_
      rotate_left
      · go_simp
        exact hJ _ rfl
      intro J hJ
      go_simp
      refine hJ _ ?_
      clear hJ J
      refine fix3_mid ?_ 0 1 (by kernel_rfl) rfl (fun J s hl hs hJ => ?_) ?_
      rotate_left
      · have hc : (g s).cell? ⟨w.heap.size, 5, none⟩ = some (.slice (some ⟨gb, o, none⟩) D.length c) := by rw [cell_of_row _ _ _ _ _ _ (((hw s hs).block _ s0).trans hz)]; rfl
        go_simp
        exact hJ _ rfl
      intro J hJ
      go_simp
      refine hJ _ ?_
      clear hJ J
      refine fix3_step ?_ (by kernel_rfl) rfl (fun J s _ _ hJ => ?_) ?_
      rotate_left
      · go_simp
        exact hJ _ rfl
      intro J hJ
      go_simp
      refine hJ _ ?_
      clear hJ J
      refine fix3_step ?_ (by kernel_rfl) rfl (fun J s _ _ hJ => ?_) ?_
      rotate_left
      · go_simp
        exact hJ _ rfl
      intro J hJ
      go_simp
      refine hJ _ ?_
      clear hJ J
      refine fix3_mid (.agg X.toArray) 0 1 (by kernel_rfl) rfl (fun J s hl hs hJ => ?_) ?_
      · exact wp_load_mid 36 (.tmp 67) rfl gb (o + k * 32) rfl X _ (fun j v hv => ((hw s hs).cell (p := ⟨gb, o + k * 32 + j, none⟩) hgl).trans (HRG.out j v hv)) Tryd.underlying36 rfl hiX (hJ _ rfl)
      intro J hJ
      go_simp
      refine hJ _ ?_
      clear hJ J
      refine fix3_step ?_ (by kernel_rfl) rfl (fun J s _ _ hJ => ?_) ?_
      rotate_left
      · go_simp
        exact hJ _ rfl
      intro J hJ
      go_simp
      refine hJ _ ?_
      clear hJ J
      refine fix3_eff 0 (.agg Y.toArray) (rfl) (by kernel_rfl) rfl (fun J hJ => ?_) ?_
      · go_simp
        (go_at_call 16; refine (HID.out _).mono ?_; rintro e W1 ⟨rfl, k1⟩; exact hJ _ k1)
      intro J hJ
      go_simp
      refine hJ _ ?_
      clear hJ J
      refine fix3_step (.bool (!q)) (by kernel_rfl) rfl (fun J s _ _ hJ => ?_) ?_
      · have he := heq (g s)
        go_simp
        exact hJ _ rfl
      intro J hJ
      go_simp
      refine hJ _ ?_
      clear hJ J
      refine fix3_nil ?_
      have hz1 := (f1.block _ s0).trans hz
      have hb1 := hb.trans (f1.mono hb.size)
      obtain ⟨wy, hwy⟩ : ∃ wy, wy = g [6].length := ⟨_, rfl⟩
      rw [← hwy]
      replace hz1 : wy.heap[w.heap.size]? = _ := hwy ▸ hz1
      replace hb1 : Below w.heap.size w wy := hwy ▸ hb1
      clear hwy hw f1 f0 e0 heq
      cases q
      · go_wp2
        go_ret
        exact ⟨rfl, hb1⟩
      · have HN2 := Lib.hid (HN.out rfl)
        go_wp2
        go_roundw
        case rel => exact ⟨k + 1, by omega, by go_num, HN2, hz1, hb1⟩
        case measure => simp [intOf]; omega
    · exfalso
      refine HNE.out (List.ext_getElem? fun j => ?_)
      by_cases hj : j < k
      · exact HP.out j hj
      · rw [List.getElem?_eq_none (by omega), List.getElem?_eq_none (by have := HL.out; omega)]
set_option maxHeartbeats 4000000 in
set_option maxRecDepth 100000 in
theorem C_same_not (H K : Hdr) (A A2 : Option Addr) (c c2 : Nat) (w : World) (hne : H ≠ K) (hK : ∀ x ∈ K.parents, x.length = 32) (hI : IdsAt w A H.parents) (hT : TextsAt w A2 c2 (K.parents.map S)) (hlen : H.parents.length ≤ 1000000) (hlen2 : K.parents.length ≤ 1000000) :
    Calls Tryd.prog 8 #[H.val A c, K.val A2 c2] w fun e w' => e = .returned (.bool false) ∧ Below w.heap.size w w' := by
  obtain ⟨hh, mi, ti, wi, po, D, sa⟩ := H
  obtain ⟨hh2, mi2, ti2, wi2, po2, E, sa2⟩ := K
  simp only at hI hT hlen hlen2 hK
  have b0 : ∀ o1 o2 : Obj, Below w.heap.size w ((w.alloc o1).alloc o2) := fun o1 o2 => ((Below.refl _ _).alloc (Nat.le_refl _) _).alloc (by simp) _
  by_cases e1 : hh = hh2
  rotate_left
  · clear hne hI hT hK
    have q1 : (hh == hh2) = false := beq_eq_false_iff_ne.2 e1
    unfold Hdr.val
    go_enter Tryd.func8, Tryd.ntmps8
    go_wp2
    go_ret
    exact ⟨rfl, b0 _ _⟩
  by_cases e2 : mi = mi2
  rotate_left
  · clear hne hI hT hK
    subst e1
    have q1 : (mi == mi2) = false := beq_eq_false_iff_ne.2 e2
    unfold Hdr.val
    go_enter Tryd.func8, Tryd.ntmps8
    go_wp2
    go_ret
    exact ⟨rfl, b0 _ _⟩
  by_cases e3 : ti = ti2
  rotate_left
  · clear hne hI hT hK
    subst e1 e2
    have q2 : ti.toList ≠ ti2.toList := tl_ne e3
    have q1 : (ti.toList == ti2.toList) = false := beq_eq_false_iff_ne.2 q2
    unfold Hdr.val
    go_enter Tryd.func8, Tryd.ntmps8
    go_wp2
    go_ret
    exact ⟨rfl, b0 _ _⟩
  by_cases e4 : wi = wi2
  rotate_left
  · clear hne hI hT hK
    subst e1 e2 e3
    have q1 : (wi == wi2) = false := beq_eq_false_iff_ne.2 e4
    unfold Hdr.val
    go_enter Tryd.func8, Tryd.ntmps8
    go_wp2
    go_ret
    exact ⟨rfl, b0 _ _⟩
  by_cases e5 : po = po2
  rotate_left
  · clear hne hI hT hK
    subst e1 e2 e3 e4
    have q1 : ((po : Int) == (po2 : Int)) = false := beq_eq_false_iff_ne.2 (by omega)
    unfold Hdr.val
    go_enter Tryd.func8, Tryd.ntmps8
    go_wp2
    go_ret
    exact ⟨rfl, b0 _ _⟩
  by_cases e7 : sa = sa2
  rotate_left
  · clear hne hI hT hK
    subst e1 e2 e3 e4 e5
    have q1 : (sa == sa2) = false := beq_eq_false_iff_ne.2 e7
    unfold Hdr.val
    go_enter Tryd.func8, Tryd.ntmps8
    go_wp2
    go_ret
    exact ⟨rfl, b0 _ _⟩
  by_cases e6 : D.length = E.length
  rotate_left
  · clear hne hI hT hK
    subst e1 e2 e3 e4 e5 e7
    have q1 : ((D.length : Int) == (E.length : Int)) = false := beq_eq_false_iff_ne.2 (by omega)
    unfold Hdr.val
    go_enter Tryd.func8, Tryd.ntmps8
    go_wp2
    go_ret
    exact ⟨rfl, b0 _ _⟩
  subst e1 e2 e3 e4 e5 e7
  exact C_same_par hh mi ti wi po sa D E e6 (fun e => hne (by rw [e])) hK A A2 c c2 w hI hT hlen
end Go.Proofs.YtdpkodhfelnedaaDoor.Cod
