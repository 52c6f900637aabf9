/- law05.awake: the walk (printed by gen/awake5.py). -/
import Derived.Test.YtdpkodhfelnedaaDoorHBack
import Derived.Test.YtdpkodhfelnedaaDoorHSame
import Derived.Test.YtdpkodhfelnedaaDoorHParse
namespace Go.Proofs.YtdpkodhfelnedaaDoor.Cod
open Go.RowKit
def hd1 (D : List UInt8) : Hdr := ⟨1, 0, ⟨#[116]⟩, 1, 2, [D], 0⟩
theorem hd1_chk (D : List UInt8) : (hd1 D).chk = 0 := rfl
theorem hd1_len (D : List UInt8) (h : D.length = 32) : (hd1 D).bytes.length ≤ 1000 := by
  have n1 := numB_len_le (x := 1) (by omega)
  have n0 := numB_len_le (x := 0) (by omega)
  have n2 := numB_len_le (x := 2) (by omega)
  have e : (hd1 D).bytes = numB 1 ++ numB 0 ++ (numB 1 ++ [116]) ++ numB 1 ++ numB 2 ++ numB 1 ++ [D].flatten ++ numB 0 := rfl
  rw [e]
  simp only [List.length_append, List.flatten_cons, List.flatten_nil, List.append_nil, List.length_singleton]
  omega
theorem gen_chk : genesis.chk = 1 := rfl
set_option maxHeartbeats 4000000 in
set_option maxRecDepth 100000 in
theorem C_awake5 (w : World) (hL : Laid w) : Calls Tryd.prog 4 #[] w fun e w' => e = .returned (.bool true) ∧ Below w.heap.size w w' := by
  have hRo := fun v hv => C_root v hv
  have hGid : ∀ v, Laid v → Calls Tryd.prog 10 #[.agg #[.int .i64 0, .int .i64 0, .string ⟨#[]⟩, .int .i64 0, .int .u64 2, .slice none 0 0, .int .i64 0]] v fun e w' => e = .returned (idv (sha genesis.bytes)) ∧ Below v.heap.size v w' := fun v hv => C_hid genesis none 0 v hv (fun i hi => absurd hi (by simp [genesis])) (by decide) (by decide) (by decide) (by decide) (by decide) (by decide) (by decide)
  have hGc : ∀ v, Calls Tryd.prog 14 #[.agg #[.int .i64 0, .int .i64 0, .string ⟨#[]⟩, .int .i64 0, .int .u64 2, .slice none 0 0, .int .i64 0]] v fun e w' => e = .returned (.int .i64 1) ∧ Below v.heap.size v w' := fun v => C_hcheck genesis none 0 v (fun i hi => absurd hi (by simp [genesis])) (by decide) (by decide) (by decide)
  obtain ⟨D, eD⟩ : ∃ D, sha genesis.bytes = D := ⟨_, rfl⟩
  have hD32 : D.length = 32 := by rw [← eD]; exact sha_len _
  simp only [eD] at hRo hGid
  clear eD
  obtain ⟨l, el⟩ : ∃ l, (hd1 D).bytes = l := ⟨_, rfl⟩
  have hll : l.length ≤ 1000 := by rw [← el]; exact hd1_len D hD32
  have hback : hres l = (hd1 D, 0) := by rw [← el, hres_eq]; exact hdr_back _ (hd1_chk D) (fun x hx => by simp only [hd1, List.mem_singleton] at hx; rw [hx]; exact hD32)
  have hBy : ∀ A c v, IdsAt v A [D] → Calls Tryd.prog 9 #[.agg #[.int .i64 1, .int .i64 0, .string ⟨#[116]⟩, .int .i64 1, .int .u64 2, .slice A 1 c, .int .i64 0]] v fun e w' => e = .returned (.string (S (hd1 D).bytes)) ∧ Below v.heap.size v w' := fun A c v h => C_hbytes (hd1 D) A c v h (by simp [hd1]) (by simp [hd1]) (by simp only [hd1]; decide) (by simp only [hd1]; decide) (by simp only [hd1]; decide) (by simp only [hd1]; decide) (by simp only [hd1]; decide)
  have hHid : ∀ A c v, Laid v → IdsAt v A [D] → Calls Tryd.prog 10 #[.agg #[.int .i64 1, .int .i64 0, .string ⟨#[116]⟩, .int .i64 1, .int .u64 2, .slice A 1 c, .int .i64 0]] v fun e w' => e = .returned (idv (sha (hd1 D).bytes)) ∧ Below v.heap.size v w' := fun A c v hv h => C_hid (hd1 D) A c v hv h (by simp [hd1]) (by simp [hd1]) (by simp only [hd1]; decide) (by simp only [hd1]; decide) (by simp only [hd1]; decide) (by simp only [hd1]; decide) (by simp only [hd1]; decide)
  have hHc : ∀ A c v, IdsAt v A [D] → Calls Tryd.prog 14 #[.agg #[.int .i64 1, .int .i64 0, .string ⟨#[116]⟩, .int .i64 1, .int .u64 2, .slice A 1 c, .int .i64 0]] v fun e w' => e = .returned (.int .i64 0) ∧ Below v.heap.size v w' := fun A c v h => C_hcheck (hd1 D) A c v h (by simp [hd1]) (by simp [hd1]) (by simp only [hd1]; decide)
  have hPa : ∀ v, Calls Tryd.prog 13 #[.string (S (hd1 D).bytes)] v fun e w' => ∃ A c, e = .returned (.tuple #[.agg #[.int .i64 1, .int .i64 0, .string ⟨#[116]⟩, .int .i64 1, .int .u64 2, .slice A 1 c, .int .i64 0], .int .i64 0]) ∧ IdsAt w' A [D] ∧ Below v.heap.size v w' := fun v => by
    have h := C_hparse (S (hd1 D).bytes) (by rw [S_size, el]; omega) v
    rw [bl_S, el, hback, ← el] at h
    exact h
  have hGe : ∀ v, Calls Tryd.prog 11 #[] v fun e w' => e = .returned (.agg #[.int .i64 0, .int .i64 0, .string ⟨#[]⟩, .int .i64 0, .int .u64 2, .slice none 0 0, .int .i64 0]) ∧ Below v.heap.size v w' := fun v => C_genesis v
  obtain ⟨D2, eD2⟩ : ∃ D2, sha (hd1 D).bytes = D2 := ⟨_, rfl⟩
  have hD232 : D2.length = 32 := by rw [← eD2]; exact sha_len _
  simp only [eD2] at hHid
  simp only [el] at hBy hPa
  clear eD2 el hback hll
  have hfold0 : List.foldl (fun cs (x : Value × Nat) => cs.setIfInBounds x.2 x.1) Z32 (Lib.byteCells D).zipIdx = (Lib.byteCells D).toArray := by
    have := fold_set (Lib.byteCells D) 0 Z32 (by rw [Lib.byteCells_length, hD32]; rfl)
    simpa using this
  have hids : ∀ (v : World) (g : Nat), v.heap[g]? = some (.cells (Lib.byteCells D).toArray 36 (0, 0)) → IdsAt v (some ⟨g, 0, none⟩) [D] := fun v g hg i hi => by
    obtain rfl : i = 0 := by simpa using hi
    exact ⟨hD32, g, 0, rfl, (Array.getElem?_eq_some_iff.1 hg).1, fun j u hu => by rw [cell_of_row _ _ _ _ _ _ hg]; simpa using hu⟩
  have heqD := fun W => eqId D D hD32 hD32 W 9998
  have heqE := fun W => eqId D2 D2 hD232 hD232 W 9998
  simp only [decide_true] at heqD heqE
  unfold idv at hRo hGid hHid heqD heqE
  obtain ⟨X, eX⟩ : ∃ X, Lib.byteCells D = X := ⟨_, rfl⟩
  obtain ⟨Y, eY⟩ : ∃ Y, Lib.byteCells D2 = Y := ⟨_, rfl⟩
  simp only [eX] at hRo hGid heqD hids
  rw [eX] at hfold0
  have hXl : X.length = 32 := by rw [← eX, Lib.byteCells_length]; exact hD32
  have hXs : X.toArray.size = 32 := by simpa using hXl
  simp only [eY] at hHid heqE
  have HL := Lib.hid hL
  have HRO := Lib.hid hRo
  have HGID := Lib.hid hGid
  have HGC := Lib.hid hGc
  have HBY := Lib.hid hBy
  have HHID := Lib.hid hHid
  have HHC := Lib.hid hHc
  have HPA := Lib.hid hPa
  have HGE := Lib.hid hGe
  have HIDS := Lib.hid hids
  have HED := Lib.hid heqD
  have HEE := Lib.hid heqE
  have h2s : 2 ≤ w.heap.size := by have := hL.size; omega
  clear hL hRo hGid hGc hBy hHid hHc hPa hGe hids heqD heqE eX eY
  go_enter Tryd.func4, Tryd.ntmps4
  go_upto_region 4 with (first
    | (go_at_call 11; ((with_reducible refine (HGE.out _).mono ?_); rintro e w1 ⟨rfl, f1⟩; have a1 := f1.alloc f1.size (.cells #[.int .i64 0, .int .i64 0, .string ⟨#[]⟩, .int .i64 0, .int .u64 2, .slice none 0 0, .int .i64 0] 31); have r1 := heap_alloc_new w1 (.cells #[.int .i64 0, .int .i64 0, .string ⟨#[]⟩, .int .i64 0, .int .u64 2, .slice none 0 0, .int .i64 0] 31)))
    | (go_at_call 12; ((with_reducible refine (HRO.out _ (HL.out.below a1 h2s)).mono ?_); rintro e w2 ⟨rfl, f2⟩; have b2 := a1.trans (f2.mono a1.size); have q1 := (f2.block w1.heap.size (by simp)).trans r1; have b3 := (b2.alloc b2.size (.cells X.toArray 36)).alloc (by have := b2.size; simp; omega) (.cells #[.int .i64 1, .int .i64 0, .string ⟨#[116]⟩, .int .i64 1, .int .u64 2, .slice (some ⟨w2.heap.size, 0, none⟩) 1 1, .int .i64 0] 31); have d3 := heap_alloc2_old w2 (.cells X.toArray 36) (.cells #[.int .i64 1, .int .i64 0, .string ⟨#[116]⟩, .int .i64 1, .int .u64 2, .slice (some ⟨w2.heap.size, 0, none⟩) 1 1, .int .i64 0] 31); have r3 := heap_alloc2_new w2 (.cells X.toArray 36) (.cells #[.int .i64 1, .int .i64 0, .string ⟨#[116]⟩, .int .i64 1, .int .u64 2, .slice (some ⟨w2.heap.size, 0, none⟩) 1 1, .int .i64 0] 31); have lt1 := (Array.getElem?_eq_some_iff.1 q1).1; have q3 := ((((Below.refl w2.heap.size w2).alloc (Nat.le_refl _) (.cells X.toArray 36)).alloc (by simp) (.cells #[.int .i64 1, .int .i64 0, .string ⟨#[116]⟩, .int .i64 1, .int .u64 2, .slice (some ⟨w2.heap.size, 0, none⟩) 1 1, .int .i64 0] 31)).block w1.heap.size lt1).trans q1; have i3 := HIDS.out _ _ d3))
    | (go_at_call 9; ((with_reducible refine (HBY.out _ _ _ i3).mono ?_); rintro e w3 ⟨rfl, f3⟩; have b4 := b3.trans (f3.mono b3.size); have q4 := (f3.block w1.heap.size (by simp; omega)).trans q3; have r4 := (f3.block (w2.heap.size + 1) (by simp)).trans r3; have i4 := i3.below f3))
    | (go_at_call 13; ((with_reducible refine (HPA.out _).mono ?_); rintro e w4 ⟨A, c, rfl, j5, f4⟩; have b5 := b4.trans (f4.mono b4.size); have q5 := (f4.block w1.heap.size (by have := f3.size; simp at this; omega)).trans q4; have r5 := (f4.block (w2.heap.size + 1) (by have := f3.size; simp at this; omega)).trans r4; have i5 := i4.below f4)))
  have oldz := fun i (hi : i < w4.heap.size) => heap_alloc_old w4 (.cells #[.int .i64 1, .int .i64 0, .string ⟨#[116]⟩, .int .i64 1, .int .u64 2, .slice A 1 c, .int .i64 0] 31) hi
  have hal := (Below.refl w4.heap.size w4).alloc (Nat.le_refl _) (.cells #[.int .i64 1, .int .i64 0, .string ⟨#[116]⟩, .int .i64 1, .int .u64 2, .slice A 1 c, .int .i64 0] 31)
  have lt4 : w2.heap.size + 1 < w4.heap.size := (Array.getElem?_eq_some_iff.1 r5).1
  have b6 := b5.alloc b5.size (.cells #[.int .i64 1, .int .i64 0, .string ⟨#[116]⟩, .int .i64 1, .int .u64 2, .slice A 1 c, .int .i64 0] 31)
  have q6 := (hal.block w1.heap.size (by omega)).trans q5
  have r6 := (hal.block (w2.heap.size + 1) lt4).trans r5
  have s6 := heap_alloc_new w4 (.cells #[.int .i64 1, .int .i64 0, .string ⟨#[116]⟩, .int .i64 1, .int .u64 2, .slice A 1 c, .int .i64 0] 31)
  have i6 := i5.below hal
  have j6 := j5.below hal
  clear oldz hal q5 r5 i5 j5 b5 q4 r4 i4 b4 f4 q3 r3 d3 i3 b3 q1 b2 f2 r1 a1 f1 f3 hfold0
  obtain ⟨wz, hwz⟩ : ∃ wz, w4.alloc (.cells #[.int .i64 1, .int .i64 0, .string ⟨#[116]⟩, .int .i64 1, .int .u64 2, .slice A 1 c, .int .i64 0] 31) = wz := ⟨_, rfl⟩
  rw [hwz] at b6 q6 r6 s6 i6 j6 ⊢
  clear hwz
  generalize w1.heap.size = B1 at q6 ⊢
  generalize w2.heap.size = gs at r6 i6 ⊢
  generalize gs + 1 = B2 at r6 ⊢
  generalize w4.heap.size = B3 at s6 ⊢
  have infoH : (Tryd.prog.info? 31).map (·.size) = some 7 := by kernel_rfl
  refine region_fix3 [1, 2, 3, 4, 6, 7, 8, 9, 11, 12, 13, 14, 17, 18, 20, 22] (fun k _ _ => if k = 0 then .int .i64 1 else if k = 3 then .agg X.toArray else if k = 4 then .agg X.toArray else if k = 8 then .int .i64 0 else if k = 14 then .agg Y.toArray else if k = 15 then .agg Y.toArray else .bool true) (fun _ W W' => Below W.heap.size W W') (by kernel_rfl) (by kernel_rfl) (fun _ W => ⟨W, Below.refl _ _⟩) fun g g0 hG => ?_
  have hw : ∀ j : Nat, j ≤ 16 → Below wz.heap.size wz (g j) := fun j => by
    induction j with
    | zero => intro _; rw [g0]; exact (Below.refl _ _).drew
    | succ j ih =>
      intro hj
      have a := ih (by omega)
      exact a.trans ((hG j (by simp; omega)).mono a.size)
  clear hG
  have G0 := Lib.hid g0
  clear g0
  have lq := (Array.getElem?_eq_some_iff.1 q6).1
  have lr := (Array.getElem?_eq_some_iff.1 r6).1
  have ls := (Array.getElem?_eq_some_iff.1 s6).1
  have hLz : Laid wz := HL.out.below b6 h2s
  have hzs : 2 ≤ wz.heap.size := by have := b6.size; omega
  have HLZ := Lib.hid hLz
  have HI6 := Lib.hid i6
  have HJ6 := Lib.hid j6
  have HQ6 := Lib.hid q6
  have HR6 := Lib.hid r6
  have HS6 := Lib.hid s6
  have HW := Lib.hid hw
  clear hLz i6 j6 q6 r6 s6 hw
  refine fix3_mid (.agg #[.int .i64 0, .int .i64 0, .string ⟨#[]⟩, .int .i64 0, .int .u64 2, .slice none 0 0, .int .i64 0]) 0 16 (by kernel_rfl) rfl (fun J s _ hs hJ => ?_) ?_
  · exact wp_load_row 31 (.tmp 1) rfl B1 rfl 31 #[.int .i64 0, .int .i64 0, .string ⟨#[]⟩, .int .i64 0, .int .u64 2, .slice none 0 0, .int .i64 0] (0, 0) _ (((HW.out s hs).block _ lq).trans HQ6.out) Tryd.underlying31 rfl infoH (hJ _ rfl)
  intro J hJ
  go_simp
  refine hJ _ ?_
  clear hJ J
  refine fix3_eff 0 (.int .i64 1) rfl (by kernel_rfl) rfl (fun J hJ => ?_) ?_
  · go_simp
    go_at_call 14
    refine (HGC.out _).mono ?_
    rintro e W1 ⟨rfl, k1⟩
    exact hJ _ k1
  intro J hJ
  go_simp
  refine hJ _ ?_
  clear hJ J
  refine fix3_eff 1 (.bool true) rfl (by kernel_rfl) rfl (fun J hJ => ?_) ?_
  · go_simp
    exact hJ _ (Below.refl _ _)
  intro J hJ
  go_simp
  refine hJ _ ?_
  clear hJ J
  refine fix3_eff 2 (.bool true) rfl (by kernel_rfl) rfl (fun J hJ => ?_) ?_
  · go_simp
    exact hJ _ (Below.refl _ _)
  intro J hJ
  go_simp
  refine hJ _ ?_
  clear hJ J
  refine fix3_eff 3 (.agg X.toArray) rfl (by kernel_rfl) rfl (fun J hJ => ?_) ?_
  · go_simp
    go_at_call 12
    refine (HRO.out _ (HLZ.out.below (HW.out 3 (by omega)) hzs)).mono ?_
    rintro e W1 ⟨rfl, k1⟩
    exact hJ _ k1
  intro J hJ
  go_simp
  refine hJ _ ?_
  clear hJ J
  refine fix3_mid (.agg #[.int .i64 0, .int .i64 0, .string ⟨#[]⟩, .int .i64 0, .int .u64 2, .slice none 0 0, .int .i64 0]) 0 16 (by kernel_rfl) rfl (fun J s _ hs hJ => ?_) ?_
  · exact wp_load_row 31 (.tmp 1) rfl B1 rfl 31 #[.int .i64 0, .int .i64 0, .string ⟨#[]⟩, .int .i64 0, .int .u64 2, .slice none 0 0, .int .i64 0] (0, 0) _ (((HW.out s hs).block _ lq).trans HQ6.out) Tryd.underlying31 rfl infoH (hJ _ rfl)
  intro J hJ
  go_simp
  refine hJ _ ?_
  clear hJ J
  refine fix3_eff 4 (.agg X.toArray) rfl (by kernel_rfl) rfl (fun J hJ => ?_) ?_
  · go_simp
    go_at_call 10
    refine (HGID.out _ (HLZ.out.below (HW.out 4 (by omega)) hzs)).mono ?_
    rintro e W1 ⟨rfl, k1⟩
    exact hJ _ k1
  intro J hJ
  go_simp
  refine hJ _ ?_
  clear hJ J
  refine fix3_eff 5 (.bool true) rfl (by kernel_rfl) rfl (fun J hJ => ?_) ?_
  · have he := HED.out (g 5)
    go_simp
    exact hJ _ (Below.refl _ _)
  intro J hJ
  go_simp
  refine hJ _ ?_
  clear hJ J
  refine fix3_eff 6 (.bool true) rfl (by kernel_rfl) rfl (fun J hJ => ?_) ?_
  · go_simp
    exact hJ _ (Below.refl _ _)
  intro J hJ
  go_simp
  refine hJ _ ?_
  clear hJ J
  refine fix3_eff 7 (.bool true) rfl (by kernel_rfl) rfl (fun J hJ => ?_) ?_
  · go_simp
    exact hJ _ (Below.refl _ _)
  intro J hJ
  go_simp
  refine hJ _ ?_
  clear hJ J
  refine fix3_mid (.agg #[.int .i64 1, .int .i64 0, .string ⟨#[116]⟩, .int .i64 1, .int .u64 2, .slice (some ⟨gs, 0, none⟩) 1 1, .int .i64 0]) 0 16 (by kernel_rfl) rfl (fun J s _ hs hJ => ?_) ?_
  · exact wp_load_row 31 (.tmp 2) rfl B2 rfl 31 #[.int .i64 1, .int .i64 0, .string ⟨#[116]⟩, .int .i64 1, .int .u64 2, .slice (some ⟨gs, 0, none⟩) 1 1, .int .i64 0] (0, 0) _ (((HW.out s hs).block _ lr).trans HR6.out) Tryd.underlying31 rfl infoH (hJ _ rfl)
  intro J hJ
  go_simp
  refine hJ _ ?_
  clear hJ J
  refine fix3_eff 8 (.int .i64 0) rfl (by kernel_rfl) rfl (fun J hJ => ?_) ?_
  · go_simp
    go_at_call 14
    refine (HHC.out _ _ _ (HI6.out.below (HW.out 8 (by omega)))).mono ?_
    rintro e W1 ⟨rfl, k1⟩
    exact hJ _ k1
  intro J hJ
  go_simp
  refine hJ _ ?_
  clear hJ J
  refine fix3_eff 9 (.bool true) rfl (by kernel_rfl) rfl (fun J hJ => ?_) ?_
  · go_simp
    exact hJ _ (Below.refl _ _)
  intro J hJ
  go_simp
  refine hJ _ ?_
  clear hJ J
  refine fix3_eff 10 (.bool true) rfl (by kernel_rfl) rfl (fun J hJ => ?_) ?_
  · go_simp
    exact hJ _ (Below.refl _ _)
  intro J hJ
  go_simp
  refine hJ _ ?_
  clear hJ J
  refine fix3_eff 11 (.bool true) rfl (by kernel_rfl) rfl (fun J hJ => ?_) ?_
  · go_simp
    exact hJ _ (Below.refl _ _)
  intro J hJ
  go_simp
  refine hJ _ ?_
  clear hJ J
  refine fix3_step (.int .i64 0) (by kernel_rfl) rfl (fun J s _ _ hJ => ?_) ?_
  · go_simp
    exact hJ _ rfl
  intro J hJ
  go_simp
  refine hJ _ ?_
  clear hJ J
  refine fix3_step (.bool true) (by kernel_rfl) rfl (fun J s _ _ hJ => ?_) ?_
  · go_simp
    exact hJ _ rfl
  intro J hJ
  go_simp
  refine hJ _ ?_
  clear hJ J
  refine fix3_eff 12 (.bool true) rfl (by kernel_rfl) rfl (fun J hJ => ?_) ?_
  · go_simp
    exact hJ _ (Below.refl _ _)
  intro J hJ
  go_simp
  refine hJ _ ?_
  clear hJ J
  refine fix3_eff 13 (.bool true) rfl (by kernel_rfl) rfl (fun J hJ => ?_) ?_
  · go_simp
    exact hJ _ (Below.refl _ _)
  intro J hJ
  go_simp
  refine hJ _ ?_
  clear hJ J
  refine fix3_mid (.agg #[.int .i64 1, .int .i64 0, .string ⟨#[116]⟩, .int .i64 1, .int .u64 2, .slice A 1 c, .int .i64 0]) 0 16 (by kernel_rfl) rfl (fun J s _ hs hJ => ?_) ?_
  · exact wp_load_row 31 (.tmp 3) rfl B3 rfl 31 #[.int .i64 1, .int .i64 0, .string ⟨#[116]⟩, .int .i64 1, .int .u64 2, .slice A 1 c, .int .i64 0] (0, 0) _ (((HW.out s hs).block _ ls).trans HS6.out) Tryd.underlying31 rfl infoH (hJ _ rfl)
  intro J hJ
  go_simp
  refine hJ _ ?_
  clear hJ J
  refine fix3_eff 14 (.agg Y.toArray) rfl (by kernel_rfl) rfl (fun J hJ => ?_) ?_
  · go_simp
    go_at_call 10
    refine (HHID.out _ _ _ (HLZ.out.below (HW.out 14 (by omega)) hzs) (HJ6.out.below (HW.out 14 (by omega)))).mono ?_
    rintro e W1 ⟨rfl, k1⟩
    exact hJ _ k1
  intro J hJ
  go_simp
  refine hJ _ ?_
  clear hJ J
  refine fix3_mid (.agg #[.int .i64 1, .int .i64 0, .string ⟨#[116]⟩, .int .i64 1, .int .u64 2, .slice (some ⟨gs, 0, none⟩) 1 1, .int .i64 0]) 0 16 (by kernel_rfl) rfl (fun J s _ hs hJ => ?_) ?_
  · exact wp_load_row 31 (.tmp 2) rfl B2 rfl 31 #[.int .i64 1, .int .i64 0, .string ⟨#[116]⟩, .int .i64 1, .int .u64 2, .slice (some ⟨gs, 0, none⟩) 1 1, .int .i64 0] (0, 0) _ (((HW.out s hs).block _ lr).trans HR6.out) Tryd.underlying31 rfl infoH (hJ _ rfl)
  intro J hJ
  go_simp
  refine hJ _ ?_
  clear hJ J
  refine fix3_eff 15 (.agg Y.toArray) rfl (by kernel_rfl) rfl (fun J hJ => ?_) ?_
  · go_simp
    go_at_call 10
    refine (HHID.out _ _ _ (HLZ.out.below (HW.out 15 (by omega)) hzs) (HI6.out.below (HW.out 15 (by omega)))).mono ?_
    rintro e W1 ⟨rfl, k1⟩
    exact hJ _ k1
  intro J hJ
  go_simp
  refine hJ _ ?_
  clear hJ J
  refine fix3_step (.bool true) (by kernel_rfl) rfl (fun J s _ _ hJ => ?_) ?_
  · have he := HEE.out (g s)
    go_simp
    exact hJ _ rfl
  intro J hJ
  go_simp
  refine hJ _ ?_
  clear hJ J
  refine fix3_step (.bool true) (by kernel_rfl) rfl (fun J s _ _ hJ => ?_) ?_
  · go_simp
    exact hJ _ rfl
  intro J hJ
  go_simp
  refine hJ _ ?_
  clear hJ J
  refine fix3_step (.bool true) (by kernel_rfl) rfl (fun J s _ _ hJ => ?_) ?_
  · go_simp
    exact hJ _ rfl
  intro J hJ
  go_simp
  refine hJ _ ?_
  clear hJ J
  refine fix3_step (.pointer (some ⟨B1, 4, none⟩)) (by kernel_rfl) rfl (fun J s _ _ hJ => ?_) ?_
  · go_simp
    exact hJ _ rfl
  intro J hJ
  go_simp
  refine hJ _ ?_
  clear hJ J
  refine fix3_mid (.int .u64 2) 0 16 (by kernel_rfl) rfl (fun J s _ hs hJ => ?_) ?_
  · have hc : (g s).cell? ⟨B1, 4, none⟩ = some (.int .u64 2) := by rw [cell_of_row _ _ _ _ _ _ (((HW.out s hs).block _ lq).trans HQ6.out)]; rfl
    go_simp
    exact hJ _ rfl
  intro J hJ
  go_simp
  refine hJ _ ?_
  clear hJ J
  refine fix3_step (.bool true) (by kernel_rfl) rfl (fun J s _ _ hJ => ?_) ?_
  · go_simp
    exact hJ _ rfl
  intro J hJ
  go_simp
  refine hJ _ ?_
  clear hJ J
  refine fix3_step (.bool true) (by kernel_rfl) rfl (fun J s _ _ hJ => ?_) ?_
  · go_simp
    exact hJ _ rfl
  intro J hJ
  go_simp
  refine hJ _ ?_
  clear hJ J
  refine fix3_step (.bool true) (by kernel_rfl) rfl (fun J s _ _ hJ => ?_) ?_
  · go_simp
    exact hJ _ rfl
  intro J hJ
  go_simp
  refine hJ _ ?_
  clear hJ J
  refine fix3_nil ?_
  have hb := b6.trans ((HW.out 16 (Nat.le_refl _)).mono b6.size)
  obtain ⟨wy, hwy⟩ : ∃ wy, wy = g [1, 2, 3, 4, 6, 7, 8, 9, 11, 12, 13, 14, 17, 18, 20, 22].length := ⟨_, rfl⟩
  rw [← hwy]
  replace hb : Below w.heap.size w wy := hwy ▸ hb
  clear hwy
  go_wp2
  go_ret
  exact ⟨rfl, hb⟩
end Go.Proofs.YtdpkodhfelnedaaDoor.Cod
