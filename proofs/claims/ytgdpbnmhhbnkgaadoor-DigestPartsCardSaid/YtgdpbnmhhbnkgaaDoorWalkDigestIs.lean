/- DigestIs: the walk, by what each call means. -/
import Derived.Test.YtgdpbnmhhbnkgaaDoorWalkDigestLong
import Derived.Test.YtgdpbnmhhbnkgaaDoorFix3
import Derived.Test.YtgdpbnmhhbnkgaaDoorRef
import Derived.Test.YtgdpbnmhhbnkgaaDoorEqId
import Derived.Test.YtgdpbnmhhbnkgaaDoorInOps
namespace Go.Proofs.YtgdpbnmhhbnkgaaDoor.Cod
open Go.RowKit
def Text3 (a b : ByteArray) : Obj := .cells #[.string a, .string ⟨#[]⟩, .string b] 9
theorem text_at3 (w : World) (a b : ByteArray) : TextsAt (w.alloc (Text3 a b)) (some ⟨w.heap.size, 0, none⟩) 3 [a, ⟨#[]⟩, b] := by
  refine ⟨by simp, fun _ => ⟨_, _, rfl, by simp, fun j x hx => ?_⟩⟩
  refine (cell_of_row _ _ _ _ _ _ (heap_alloc_new w _)).trans ?_
  rcases j with _ | _ | _ | j
  · simp at hx; subst hx; rfl
  · simp at hx; subst hx; rfl
  · simp at hx; subst hx; rfl
  · simp at hx
theorem C_dig3 (a b : ByteArray) (hs : a.size + b.size ≤ 1000000) (w : World) (hL : Laid w) : Calls Tryd.prog 16 #[.slice (some ⟨w.heap.size, 0, none⟩) 3 3] (w.alloc (Text3 a b)) fun e w' => e = .returned (idv (sha (bl a ++ bl b))) ∧ Below (w.alloc (Text3 a b)).heap.size (w.alloc (Text3 a b)) w' := by
  have hb := (Below.refl w.heap.size w).alloc (Nat.le_refl _) (Text3 a b)
  have e : allOf [a, ⟨#[]⟩, b] = bl a ++ bl b := by simp [allOf, bl]
  have := C_dig _ 3 [a, ⟨#[]⟩, b] _ (text_at3 w a b) (by simp) (by rw [e, List.length_append, bl_len, bl_len]; omega) (hL.below hb (by have := hL.size; omega))
  rw [e] at this
  exact this
def SpecIs (a b : ByteArray) : Nat → World → World → Prop
  | 0, W, W' => Below W.heap.size W W'
  | 3, W, W' => W' = W.alloc (Text3 a b)
  | 4, W, W' => Below W.heap.size W W'
  | _, W, W' => W' = W
theorem specIs_tot (a b : ByteArray) (k : Nat) (W : World) : ∃ W', SpecIs a b k W W' := by
  rcases k with _ | _ | _ | _ | _ | k
  · exact ⟨W, Below.refl _ _⟩
  · exact ⟨W, rfl⟩
  · exact ⟨W, rfl⟩
  · exact ⟨_, rfl⟩
  · exact ⟨W, Below.refl _ _⟩
  · exact ⟨W, rfl⟩
def VIs (D : List UInt8) (DC : Array Value) : Nat → World → World → Value
  | 0, _, _ => .string (S D)
  | 3, W, _ => .slice (some ⟨W.heap.size, 0, none⟩) 3 3
  | 4, _, _ => .agg DC
  | _, _, _ => .bool true
theorem wp_load_row {P : Program} {op : Oper} {a : Act} {w : World} {K : Act → World → Prop} {Q : Exit → Act → World → Prop} (ty : TypeId) (x : Operand) (ho : op.op = .load ty x)
    (b : Nat) (hx : a.eval x = .pointer (some ⟨b, 0, none⟩)) (t : TypeId) (c : Array Value) (f : Nat × Nat) (d : TypeDesc) (hg : w.heap[b]? = some (.cells c t f)) (hu : P.underlying ty = some d) (hd : d.isRow = true) (hi : (P.info? ty).map (·.size) = some c.size)
    (h : K (a.put op.dst (.agg c)) w) : op.wp P a w K Q := by
  unfold Oper.wp execOp
  have hr : w.rangeAt b 0 c.toList := fun j v hv => by rw [Nat.zero_add, cell_of_row w b j c t f hg]; simpa using hv
  have hl := run_loadVar_mid (P := P) w b 0 ty c.toList d hr hu hd (by rw [hi]; simp)
  rw [Array.toArray_toList] at hl
  simp only [ho, hx, Instr.loadAt, Instr.sureAddr, Sem.run_bind, Sem.run_pure, Result.andThen_ok, hl]
  exact h
set_option maxHeartbeats 2000000 in
set_option maxRecDepth 100000 in
theorem W_DigestIs (s : ByteArray) (cut : Int) (h0 : s.size ≤ 140737488351232) (h1 : cut ≤ 9223372036854775807) (h2 : -9223372036854775808 ≤ cut) (w : World) (hL : Laid w) (hR : ∀ (s : ByteArray), s.size ≤ 300 → ∀ v, Calls Tryd.prog 31 #[.string s] v fun e w' => e = .returned (.string (S (sha (bl s)))) ∧ Below v.heap.size v w') :
    Calls Tryd.prog 4 #[.string s, .int .i64 cut] w fun e w' => e = .returned (.bool true) ∧ Below w.heap.size w w' := by
  have hconv := conv1
  have hA := C_awd w hL
  have hCut := fun v => C_cut s 200 (by omega) (by omega) h0 v
  obtain ⟨t, et⟩ : ∃ t, S ((bl s).take (200 : Int).toNat) = t := ⟨_, rfl⟩
  have ht2 : t.size ≤ 200 := by rw [← et, S_size, List.length_take]; exact Nat.min_le_left _ _
  rw [et] at hCut
  clear et
  obtain ⟨N, hN, hN3⟩ : ∃ N : Nat, (N : Int) = max 0 (min cut (t.size : Int)) ∧ N ≤ t.size := ⟨(max 0 (min cut t.size)).toNat, by omega, by omega⟩
  obtain ⟨D, eD⟩ : ∃ D, sha (bl t) = D := ⟨_, rfl⟩
  have hD32 : D.length = 32 := by rw [← eD]; exact sha_len _
  have HL := Lib.hid hL
  clear hL
  go_enter Tryd.func4, Tryd.ntmps4
  go_wp2_with (first
    | (go_at_call 29; ((with_reducible refine hA.mono ?_); rintro e w1 ⟨rfl, f1⟩))
    | (go_at_call 30; ((with_reducible refine (hCut _).mono ?_); rintro e w2 ⟨rfl, rfl⟩)))
  rw [← hN]
  have hN0 : (0 : Int) ≤ (N : Int) := by omega
  have hN4 : (N : Int) ≤ (t.size : Int) := by omega
  clear hN
  have hD := C_dig1 t (by omega) w1 (HL.out.below f1 (by have := HL.out.size; omega))
  rw [eD] at hD
  have hRt := hR t (by omega)
  rw [eD] at hRt
  have hts : bl (t.extract 0 N) ++ bl (t.extract N t.size) = bl t := by rw [bl_take, bl_drop, List.take_append_drop]
  have hD3 := fun v (h : Laid v) => C_dig3 (t.extract 0 N) (t.extract N t.size) (by simp; omega) v h
  rw [hts, eD] at hD3
  unfold idv at hD hD3
  have hDi : (Tryd.prog.info? 31).map (·.size) = some (Lib.byteCells D).toArray.size := by rw [show (Lib.byteCells D).toArray.size = 32 by simp [Lib.byteCells, hD32]]; kernel_rfl
  have hDs : Z32.size = (Lib.byteCells D).toArray.size := by rw [show (Lib.byteCells D).toArray.size = 32 by simp [Lib.byteCells, hD32]]; rfl
  have hD1 : (Lib.byteCells D).toArray.all (·.oneCell') = true := by simp [Lib.byteCells, Value.oneCell']
  have hcv := fun (W : World) (b : Nat) (h : W.heap[b]? = some (.cells (Lib.byteCells D).toArray 31 (0, 0))) => convID W b D hD32 (0, 0) h
  have heq := fun W => eqId D D hD32 hD32 W 9998
  simp only [decide_true] at heq
  unfold idv at heq
  obtain ⟨DC, eDC⟩ : ∃ DC, (Lib.byteCells D).toArray = DC := ⟨_, rfl⟩
  simp only [eDC] at hcv heq
  rw [eDC] at hD hDi hDs hD1 hD3
  have HCV := Lib.hid hcv
  clear eDC hcv eD
  go_wp2_with (first
    | (go_at_call 16; ((with_reducible refine hD.mono ?_); rintro e w2 ⟨rfl, f2⟩))
    | (refine wpList_store_new (by rfl) 31 (.tmp 6) (.tmp 18) (by rfl) w2.heap.size (by rfl) DC Z32 31 (by rfl) (by rfl) hDi hDs hD1 ?_))
  have hb3 := f1.trans (f2.mono f1.size)
  obtain ⟨w3, e3⟩ : ∃ w3, w2.alloc (.cells DC 31) = w3 := ⟨_, rfl⟩
  have h3 : w3.heap[w2.heap.size]? = some (.cells DC 31 (0, 0)) := by rw [← e3]; exact heap_alloc_new _ _
  have hb4 : Below w.heap.size w w3 := by rw [← e3]; exact hb3.alloc hb3.size _
  have hz3 : w2.heap.size < w3.heap.size := by rw [← e3]; simp
  rw [e3]
  refine region_fix3 [3, 4, 5, 12, 13] (VIs D DC) (SpecIs (t.extract 0 N) (t.extract N t.size)) (by kernel_rfl) (by kernel_rfl) (specIs_tot _ _) fun g g0 hC => ?_
  have c0 : Below (g 0).heap.size (g 0) (g 1) := hC 0 (by decide)
  have c1 : g 2 = g 1 := hC 1 (by decide)
  have c2 : g 3 = g 2 := hC 2 (by decide)
  have c3 : g 4 = (g 3).alloc (Text3 (t.extract 0 N) (t.extract N t.size)) := hC 3 (by decide)
  have c4 : Below (g 4).heap.size (g 4) (g 5) := hC 4 (by decide)
  clear hC
  have b0 : Below w3.heap.size w3 (g 0) := by rw [g0]; exact (Below.refl _ _).drew
  have b1 := b0.trans (c0.mono b0.size)
  have b3 : Below w3.heap.size w3 (g 3) := by rw [c2, c1]; exact b1
  have b4 : Below w3.heap.size w3 (g 4) := by rw [c3]; exact b3.alloc b3.size _
  have b5 := b4.trans (c4.mono b4.size)
  have L3 := HL.out.below (hb4.trans (b3.mono hb4.size)) (by have := HL.out.size; omega)
  have hE3 := hD3 _ L3
  rw [← c3] at hE3
  clear hD3
  have C0 := Lib.hid c0
  have C1 := Lib.hid c1
  have C2 := Lib.hid c2
  have C3 := Lib.hid c3
  have G0 := Lib.hid g0
  clear c0 c1 c2 c3 g0
  refine fix3_step (.slice (some ⟨w2.heap.size, 0, none⟩) 32 32) (by kernel_rfl) rfl (fun J s _ _ hJ => ?_) ?_
  · go_simp
    exact hJ _ rfl
  intro J hJ
  go_simp
  refine hJ _ ?_
  clear hJ J
  refine fix3_mid (.string (S D)) 0 1 (by kernel_rfl) rfl (fun J s _ hs hJ => ?_) ?_
  · have hc := HCV.out (g s) _ (by
      rcases s with _ | _ | s
      · exact (b0.block _ hz3).trans h3
      · exact (b1.block _ hz3).trans h3
      · omega)
    go_simp
    exact hJ _ rfl
  intro J hJ
  go_simp
  refine hJ _ ?_
  clear hJ J
  refine fix3_step (.string t) (by kernel_rfl) rfl (fun J s _ _ hJ => ?_) ?_
  · go_simp
    exact hJ _ rfl
  intro J hJ
  go_simp
  refine hJ _ ?_
  clear hJ J
  refine fix3_eff 0 (.string (S D)) rfl (by kernel_rfl) rfl (fun J hJ => ?_) ?_
  · go_simp
    go_at_call 31
    refine (hRt _).mono ?_
    rintro e W1 ⟨rfl, g1⟩
    exact hJ _ g1
  intro J hJ
  go_simp
  refine hJ _ ?_
  clear hJ J
  refine fix3_eff 1 (.bool true) rfl (by kernel_rfl) rfl (fun J hJ => ?_) ?_
  · go_simp
    exact hJ _ rfl
  intro J hJ
  go_simp
  refine hJ _ ?_
  clear hJ J
  refine fix3_eff 2 (.bool true) rfl (by kernel_rfl) rfl (fun J hJ => ?_) ?_
  · go_simp
    exact hJ _ rfl
  intro J hJ
  go_simp
  refine hJ _ ?_
  clear hJ J
  iterate 6
    refine fix3_one 3 (by kernel_rfl) rfl (fun J hJ => ?_)
    go_simp
    refine hJ _ ?_
    clear hJ J
  refine fix3_eff 3 (.slice (some ⟨(g 3).heap.size, 0, none⟩) 3 3) rfl (by kernel_rfl) rfl (fun J hJ => ?_) ?_
  · go_simp
    exact hJ _ rfl
  intro J hJ
  go_simp
  refine hJ _ ?_
  clear hJ J
  refine fix3_eff 4 (.agg DC) rfl (by kernel_rfl) rfl (fun J hJ => ?_) ?_
  · go_simp
    go_at_call 16
    refine hE3.mono ?_
    rintro e W1 ⟨rfl, g1⟩
    exact hJ _ g1
  intro J hJ
  go_simp
  refine hJ _ ?_
  clear hJ J
  refine fix3_mid (.agg DC) 3 5 (by kernel_rfl) rfl (fun J s hs1 hs2 hJ => ?_) ?_
  · have hc : (g s).heap[w2.heap.size]? = some (.cells DC 31 (0, 0)) := by
      have : s = 3 ∨ s = 4 ∨ s = 5 := by omega
      rcases this with rfl | rfl | rfl
      · exact (b3.block _ hz3).trans h3
      · exact (b4.block _ hz3).trans h3
      · exact (b5.block _ hz3).trans h3
    exact wp_load_row 31 (.tmp 6) rfl w2.heap.size rfl 31 DC (0, 0) _ hc Tryd.underlying31 rfl hDi (hJ _ rfl)
  intro J hJ
  go_simp
  refine hJ _ ?_
  clear hJ J
  refine fix3_one 5 (by kernel_rfl) rfl (fun J hJ => ?_)
  go_simp
  refine hJ _ ?_
  clear hJ J
  refine fix3_step (.bool true) (by kernel_rfl) rfl (fun J s _ _ hJ => ?_) ?_
  · go_simp
    exact hJ _ rfl
  intro J hJ
  go_simp
  refine hJ _ ?_
  clear hJ J
  refine fix3_one 5 (by kernel_rfl) rfl (fun J hJ => ?_)
  go_simp
  refine hJ _ ?_
  clear hJ J
  refine fix3_nil ?_
  go_wp2
  go_ret
  exact ⟨rfl, hb4.trans (b5.mono hb4.size)⟩
end Go.Proofs.YtgdpbnmhhbnkgaaDoor.Cod
