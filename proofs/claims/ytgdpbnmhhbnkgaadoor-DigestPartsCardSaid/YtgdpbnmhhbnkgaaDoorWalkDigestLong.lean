/- DigestLong: the walk, by what each call means. -/
import Derived.Test.YtgdpbnmhhbnkgaaDoorShaAbc
import Derived.Test.YtgdpbnmhhbnkgaaDoorFix2
namespace Go.Proofs.YtgdpbnmhhbnkgaaDoor.Cod
open Go.RowKit
theorem strOf_map (D : List UInt8) : strOfNums (D.map fun c => (c.toNat : Int)) = S D := by
  unfold strOfNums S
  rw [List.map_map]
  congr 1
  congr 1
  exact (List.map_congr_left (fun x _ => by simp)).trans (List.map_id _)
theorem convID (W : World) (b : Nat) (D : List UInt8) (hD : D.length = 32) (f : Nat × Nat) (h : W.heap[b]? = some (.cells (Lib.byteCells D).toArray 31 f)) : (convert 25 9 (.slice (some ⟨b, 0, none⟩) 32 32)).run Tryd.prog W = .ok (.string (S D)) W := by
  have := run_convert_bytes_arg (P := Tryd.prog) (w := W) 25 5 Tryd.underlying25 Tryd.underlying5 b 0 32 32 (D.map fun c => (c.toNat : Int)) (by simp [hD]) (fun i hi => by
    have hx : D[i]? = some D[i] := List.getElem?_eq_getElem (by omega)
    rw [Nat.zero_add]
    refine (cell_of_row _ _ _ _ _ _ h).trans ?_
    rw [byteCells_get hx]
    simp [hx]) 9 Tryd.underlying9
  rw [this, strOf_map]
def LongRel (w : World) (N : Nat) (s i : Value) (wr : World) : Prop :=
  ∃ (k : Nat) (t : ByteArray), k ≤ N ∧ i = .int .i64 k ∧ s = .string t ∧ t.size = k ∧ Below w.heap.size w wr
theorem text_at (w : World) (s : ByteArray) : TextsAt (w.alloc (.cells #[.string s] 9)) (some ⟨w.heap.size, 0, none⟩) 1 [s] := by
  refine ⟨by simp, fun _ => ⟨_, _, rfl, by simp, fun j x hx => ?_⟩⟩
  refine (cell_of_row _ _ _ _ _ _ (heap_alloc_new w _)).trans ?_
  rcases j with _ | j
  · simp at hx; subst hx; rfl
  · simp at hx
theorem C_dig1 (s : ByteArray) (hs : s.size ≤ 1000000) (w : World) (hL : Laid w) : Calls Tryd.prog 16 #[.slice (some ⟨w.heap.size, 0, none⟩) 1 1] (w.alloc (.cells #[.string s] 9)) fun e w' => e = .returned (idv (sha (bl s))) ∧ Below w.heap.size w w' := by
  have hb := (Below.refl w.heap.size w).alloc (Nat.le_refl _) (.cells #[.string s] 9)
  have e : allOf [s] = bl s := by simp [allOf]
  have := C_dig _ 1 [s] _ (text_at w s) (by simp) (by rw [e, bl_len]; omega) (hL.below hb (by have := hL.size; omega))
  rw [e, show ([s] : List ByteArray).length = 1 from rfl] at this
  exact this.mono fun e w' ⟨h1, h2⟩ => ⟨h1, hb.trans (h2.mono hb.size)⟩
set_option maxHeartbeats 2000000 in
set_option maxRecDepth 100000 in
theorem W_DigestLong (n b : Int) (h1 : -9223372036854775808 ≤ n) (h2 : n ≤ 9223372036854775807) (w : World) (hL : Laid w) (hR : ∀ (s : ByteArray), s.size ≤ 300 → ∀ v, Calls Tryd.prog 31 #[.string s] v fun e w' => e = .returned (.string (S (sha (bl s)))) ∧ Below v.heap.size v w') :
    Calls Tryd.prog 5 #[.int .i64 n, .int .u8 b] w fun e w' => e = .returned (.bool true) ∧ Below w.heap.size w w' := by
  have hconv := conv1
  have hA := C_awd w hL
  obtain ⟨N, hN, hN3⟩ : ∃ N : Nat, (N : Int) = max 0 (min n 300) ∧ N ≤ 300 := ⟨(max 0 (min n 300)).toNat, by omega, by omega⟩
  have HL := Lib.hid hL
  clear hL
  go_enter Tryd.func5, Tryd.ntmps5
  go_wp2_with (go_at_call 29; ((with_reducible refine hA.mono ?_); rintro e w1 ⟨rfl, f1⟩))
  rw [← hN]
  have hcl : IntKind.i64.wrap (N : Int) = (N : Int) := IntWalk.i64_in _ (by omega)
  go_loopw [5, 13] (fun s i wr => LongRel w N s i wr) (fun _ i _ => N - (intOf i).toNat)
  case atStart => exact ⟨0, _, by omega, rfl, rfl, rfl, f1⟩
  case round =>
    obtain ⟨k, t, hk, rfl, rfl, hts, hbw⟩ := hrel
    have hts2 : t.size ≤ 300 := by omega
    have b0 : (0 : Int) ≤ (k : Int) := by omega
    by_cases hlt : k < N
    · have b1 : (k : Int) < (N : Int) := by omega
      go_wp2
      refine ⟨⟨k + 1, _, by omega, by go_num, rfl, by rw [ByteArray.size_append, hts]; rfl, hbw.alloc hbw.size _⟩, by simp [intOf]; omega⟩
    · have b1 : ¬ (k : Int) < (N : Int) := by omega
      obtain ⟨D, eD⟩ : ∃ D, sha (bl t) = D := ⟨_, rfl⟩
      have hD32 : D.length = 32 := by rw [← eD]; exact sha_len _
      have hD := C_dig1 t (by omega) wr (HL.out.below hbw (by have := HL.out.size; omega))
      rw [eD] at hD
      have hRt := hR t (by omega)
      rw [eD] at hRt
      unfold idv at hD
      clear eD
      have hDi : (Tryd.prog.info? 31).map (·.size) = some (Lib.byteCells D).toArray.size := by rw [show (Lib.byteCells D).toArray.size = 32 by simp [Lib.byteCells, hD32]]; kernel_rfl
      have hDs : Z32.size = (Lib.byteCells D).toArray.size := by rw [show (Lib.byteCells D).toArray.size = 32 by simp [Lib.byteCells, hD32]]; rfl
      have hD1 : (Lib.byteCells D).toArray.all (·.oneCell') = true := by simp [Lib.byteCells, Value.oneCell']
      have hcv := fun (W : World) (b : Nat) (h : W.heap[b]? = some (.cells (Lib.byteCells D).toArray 31 (0, 0))) => convID W b D hD32 (0, 0) h
      obtain ⟨DC, eDC⟩ : ∃ DC, (Lib.byteCells D).toArray = DC := ⟨_, rfl⟩
      simp only [eDC] at hcv
      rw [eDC] at hD hDi hDs hD1
      have HCV := Lib.hid hcv
      clear eDC hcv
      go_wp2_with (first
        | (go_at_call 16; ((with_reducible refine hD.mono ?_); rintro e w2 ⟨rfl, f2⟩))
        | (refine wpList_store_new (by rfl) 31 (.tmp 6) (.tmp 23) (by rfl) w2.heap.size (by rfl) DC Z32 31 (by rfl) (by rfl) hDi hDs hD1 ?_))
      have hb3 := hbw.trans (f2.mono hbw.size)
      obtain ⟨w3, e3⟩ : ∃ w3, w2.alloc (.cells DC 31) = w3 := ⟨_, rfl⟩
      have h3 : w3.heap[w2.heap.size]? = some (.cells DC 31 (0, 0)) := by rw [← e3]; exact heap_alloc_new _ _
      have hb4 : Below w.heap.size w w3 := by rw [← e3]; exact hb3.alloc hb3.size _
      have hz3 : w2.heap.size < w3.heap.size := by rw [← e3]; simp
      rw [e3]
      refine region_fix2 [3] (fun _ W' => Below w3.heap.size w3 W') (by kernel_rfl) (by kernel_rfl) (Below.refl _ _).drew ?_
      refine fix2_step (.slice (some ⟨w2.heap.size, 0, none⟩) 32 32) (by kernel_rfl) rfl (fun J s _ hJ W hW => ?_) ?_
      · go_simp
        exact hJ _ hW
      refine fix2_step (.string (S D)) (by kernel_rfl) rfl (fun J s _ hJ W hW => ?_) ?_
      · have hc := HCV.out W _ ((hW.block _ hz3).trans h3)
        go_simp
        exact hJ _ hW
      refine fix2_step (.string t) (by kernel_rfl) rfl (fun J s _ hJ W hW => ?_) ?_
      · go_simp
        exact hJ _ hW
      refine fix2_eff (.string (S D)) 0 (by kernel_rfl) rfl ?_ ?_
      · intro J hJ W hW
        go_simp
        go_at_call 31
        refine (hRt W).mono ?_
        rintro e W1 ⟨rfl, g⟩
        exact hJ _ (hW.trans (g.mono hW.size))
      refine fix2_step (.bool true) (by kernel_rfl) rfl (fun J s _ hJ W hW => ?_) ?_
      · go_simp
        exact hJ _ hW
      refine fix2_step (.bool true) (by kernel_rfl) rfl (fun J s _ hJ W hW => ?_) ?_
      · go_simp
        exact hJ _ hW
      refine fix2_nil ?_
      intro W' hW'
      go_wp2
      go_ret
      exact ⟨rfl, hb4.trans (hW'.mono hb4.size)⟩
end Go.Proofs.YtgdpbnmhhbnkgaaDoor.Cod
