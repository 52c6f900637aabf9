/- digest.mix: the eight words behind a block. Contract by what it means. -/
import Derived.Test.YtdpkodhfelnedaaDoorSched
namespace Go.Proofs.YtdpkodhfelnedaaDoor.Cod
open Go.RowKit
/-- the cells of eight words -/
def cells8 (x : S8) : Array Value := #[.int .u32 x.a, .int .u32 x.b, .int .u32 x.c, .int .u32 x.d, .int .u32 x.e, .int .u32 x.f, .int .u32 x.g, .int .u32 x.h]
theorem cells8_size (x : S8) : (cells8 x).size = 8 := rfl
theorem words8 (x : S8) : wordsA x.list = cells8 x := rfl
/-- the table of keys and the first words lie where the program's text has laid them -/
def Laid (w : World) : Prop := (∃ T, w.heap[0]? = some (.cells (cells8 H0) T (0, 0))) ∧ ∃ T, w.heap[1]? = some (.cells (wordsA KEYS) T (0, 0))
theorem Laid.size {w : World} (h : Laid w) : 1 < w.heap.size := by
  obtain ⟨T, h⟩ := h.2
  exact (Array.getElem?_eq_some_iff.1 h).1
theorem Laid.below {w w' : World} {B : Nat} (h : Laid w) (hb : Below B w w') (hB : 2 ≤ B) : Laid w' :=
  ⟨h.1.imp fun _ e => (hb.block 0 (by omega)).trans e, h.2.imp fun _ e => (hb.block 1 (by omega)).trans e⟩
theorem Laid.drew {w : World} (h : Laid w) : Laid w.drew := h
theorem keys_get (k : Nat) (hk : k < 64) : KEYS[k]? = some (KEYS.getD k 0) := by
  rw [List.getD_eq_getElem?_getD, List.getElem?_eq_getElem (by rw [keys_len]; exact hk)]; rfl
theorem not32 (y : Nat) (h : y < 4294967296) : bits .xor .u32 (if IntKind.u32.signed = true then -1 else IntKind.u32.max) (y : Int) = ((4294967295 - y : Nat) : Int) := by
  show IntKind.u32.wrap ((BitVec.ofInt 32 4294967295 ^^^ BitVec.ofInt 32 (y : Int)).toNat : Int) = _
  rw [show BitVec.ofInt 32 4294967295 = BitVec.allOnes 32 by decide, BitVec.allOnes_xor, BitVec.toNat_not, b32_nat y h]
  rw [show 2 ^ 32 - 1 - y = 4294967295 - y by omega]
  exact wrap32 _ (by omega)
theorem T_expr (y7 y4 y5 y6 kk wk : Nat) (h4 : y4 < 4294967296) (h5 : y5 < 4294967296) (h6 : y6 < 4294967296) :
    IntKind.u32.wrap (IntKind.u32.wrap (IntKind.u32.wrap (IntKind.u32.wrap ((y7 : Int) + bits .xor .u32 (bits .xor .u32 (rotr 6 y4 : Nat) (rotr 11 y4 : Nat)) (rotr 25 y4 : Nat)) + bits .xor .u32 (bits .and .u32 (y4 : Int) (y5 : Int)) (bits .and .u32 (bits .xor .u32 (if IntKind.u32.signed = true then -1 else IntKind.u32.max) (y4 : Int)) (y6 : Int))) + (kk : Int)) + (wk : Int)) = (((y7 + Sg1 y4 + chs y4 y5 y6 + kk + wk) % 4294967296 : Nat) : Int) := by
  have r6 := rotr_lt 6 y4 (by omega) h4
  have r11 := rotr_lt 11 y4 (by omega) h4
  have r25 := rotr_lt 25 y4 (by omega) h4
  have hn := not32 y4 h4
  rw [hn, xor32 _ _ r6 r11, xor32 _ _ (xor_lt r6 r11) r25, and32 _ _ h4 h5, and32 _ _ (by omega) h6, xor32 _ _ (and_lt' h5) (and_lt' h6), wrap32_add, wrap32_add, wrap32_add, wrap32_add]
  unfold Sg1 chs
  omega
theorem U_expr (y0 y1 y2 : Nat) (h0 : y0 < 4294967296) (h1 : y1 < 4294967296) (h2 : y2 < 4294967296) :
    IntKind.u32.wrap (bits .xor .u32 (bits .xor .u32 (rotr 2 y0 : Nat) (rotr 13 y0 : Nat)) (rotr 22 y0 : Nat) + bits .xor .u32 (bits .xor .u32 (bits .and .u32 (y0 : Int) (y1 : Int)) (bits .and .u32 (y0 : Int) (y2 : Int))) (bits .and .u32 (y1 : Int) (y2 : Int))) = (((Sg0 y0 + maj y0 y1 y2) % 4294967296 : Nat) : Int) := by
  have r2 := rotr_lt 2 y0 (by omega) h0
  have r13 := rotr_lt 13 y0 (by omega) h0
  have r22 := rotr_lt 22 y0 (by omega) h0
  rw [xor32 _ _ r2 r13, xor32 _ _ (xor_lt r2 r13) r22, and32 _ _ h0 h1, and32 _ _ h0 h2, and32 _ _ h1 h2, xor32 _ _ (and_lt' h1) (and_lt' h2), xor32 _ _ (xor_lt (and_lt' h1) (and_lt' h2)) (and_lt' h2), wrap32_add]
  rfl
structure MixI (w : World) (x : S8) (W : List Nat) (N : Nat) (wr : World) : Prop where
  b : Below w.heap.size w wr
  n : w.heap.size + 2 ≤ N
  z : N + 1 < wr.heap.size
  h2 : wr.heap[w.heap.size]? = some (.cells (cells8 x) 70 (0, 0))
  h4 : wr.heap[w.heap.size + 1]? = some (.cells (cells8 ⟨0, 0, 0, 0, 0, 0, 0, 0⟩) 70 (0, 0))
  h5 : wr.heap[N]? = some (.cells (wordsA W) 82 (0, 0))
  l : Laid wr
theorem add_at (x y : S8) (k : Nat) (hk : k < 8) : ∃ a b, x.list[k]? = some a ∧ y.list[k]? = some b ∧ (addS x y).list[k]? = some ((a + b) % 4294967296) := by
  obtain ⟨a0, a1, a2, a3, a4, a5, a6, a7⟩ := x
  obtain ⟨b0, b1, b2, b3, b4, b5, b6, b7⟩ := y
  unfold addS S8.list
  rcases k with _ | _ | _ | _ | _ | _ | _ | _ | k
  · exact ⟨_, _, rfl, rfl, rfl⟩
  · exact ⟨_, _, rfl, rfl, rfl⟩
  · exact ⟨_, _, rfl, rfl, rfl⟩
  · exact ⟨_, _, rfl, rfl, rfl⟩
  · exact ⟨_, _, rfl, rfl, rfl⟩
  · exact ⟨_, _, rfl, rfl, rfl⟩
  · exact ⟨_, _, rfl, rfl, rfl⟩
  · exact ⟨_, _, rfl, rfl, rfl⟩
  · omega
def addC (x y : S8) (k : Nat) : Array Value := wordsA ((addS x y).list.take k ++ x.list.drop k)
theorem list8 (x : S8) : x.list.length = 8 := rfl
theorem addC_at (x y : S8) (k a : Nat) (hk : k < 8) (h : x.list[k]? = some a) : (addC x y k)[k]? = some (.int .u32 (a : Int)) := by
  refine wordsA_get _ _ _ ?_
  rw [List.getElem?_append_right (by rw [List.length_take, list8]; omega), List.length_take, list8, show k - min k 8 = 0 by omega, List.getElem?_drop]
  exact h
theorem addC_set (x y : S8) (k c : Nat) (hk : k < 8) (h : (addS x y).list[k]? = some c) : (addC x y k).setIfInBounds k (.int .u32 (c : Int)) = addC x y (k + 1) := by
  unfold addC wordsA
  rw [List.setIfInBounds_toArray, List.take_add_one, h, List.drop_eq_getElem_cons (l := x.list) (i := k) (by rw [list8]; exact hk)]
  congr 1
  rw [List.map_append, List.set_append_right _ _ (by rw [List.length_map, List.length_take, list8]; omega), List.length_map, List.length_take, show k - min k (addS x y).list.length = 0 by rw [list8]; omega]
  simp
  rw [List.drop_eq_getElem_cons (by rw [List.length_map, list8]; exact hk)]
  rfl
theorem addC_size (x y : S8) (k : Nat) (hk : k ≤ 8) : (addC x y k).size = 8 := by
  unfold addC
  rw [wordsA_size, List.length_append, List.length_take, List.length_drop, list8, list8]
  omega
theorem addC_zero (x y : S8) : addC x y 0 = cells8 x := rfl
theorem addC_full (x y : S8) : addC x y 8 = cells8 (addS x y) := rfl
def Mix2Rel (w : World) (x y : S8) (N : Nat) (i : Value) (wr : World) : Prop :=
  ∃ k : Nat, k ≤ 8 ∧ i = .int .i64 k ∧ Below w.heap.size w wr ∧ wr.heap[w.heap.size]? = some (.cells (addC x y k) 70 (0, 0)) ∧ wr.heap[w.heap.size + 1]? = some (.cells (cells8 ⟨0, 0, 0, 0, 0, 0, 0, 0⟩) 70 (0, 0)) ∧ wr.heap[N + 1]? = some (.cells (cells8 y) 70 (0, 0))
def MixRel (w : World) (x : S8) (W : List Nat) (N : Nat) (i : Value) (wr : World) : Prop :=
  ∃ k : Nat, k ≤ 64 ∧ i = .int .i64 k ∧ MixI w x W N wr ∧ wr.heap[N + 1]? = some (.cells (cells8 (rnds x W k)) 70 (0, 0))
set_option maxHeartbeats 4000000 in
set_option maxRecDepth 100000 in
theorem C_mix (x : S8) (hx : x.ok) (s : ByteArray) (hs : s.size = 64) (w : World) (hL : Laid w) : Calls Tryd.prog 35 #[.agg (cells8 x), .string s] w fun e w' => e = .returned (.agg (cells8 (mixS x s.data.toList))) ∧ Below w.heap.size w w' := by
  obtain ⟨W, eW⟩ : ∃ W, W = sched s.data.toList := ⟨_, rfl⟩
  have hW : W.length = 64 := by rw [eW]; exact sched_len _
  have hWl : ∀ k, k < 64 → W[k]? = some (W.getD k 0) ∧ W.getD k 0 < 4294967296 := fun k hk => by
    have h1 : W[k]? = some (W.getD k 0) := by rw [List.getD_eq_getElem?_getD, List.getElem?_eq_getElem (by omega)]; rfl
    exact ⟨h1, sched_lt s.data.toList k _ (by rw [← eW]; exact h1)⟩
  have hC := fun v => C_sched s hs v
  unfold mixS
  rw [← eW] at hC ⊢
  have hi64 : (Tryd.prog.info? 82).map (·.size) = some (wordsA W).size := by rw [wordsA_size, hW]; kernel_rfl
  have hi8 : ∀ x : S8, (Tryd.prog.info? 70).map (·.size) = some (cells8 x).size := fun x => by show _ = some 8; kernel_rfl
  have hs64 : (wordsA (List.replicate 64 0)).size = (wordsA W).size := by rw [wordsA_size, wordsA_size, hW]; rfl
  have hone := wordsA_one W
  have hone8 : ∀ x : S8, (cells8 x).all (·.oneCell') = true := fun x => by rw [← words8]; exact wordsA_one _
  obtain ⟨C, eC⟩ : ∃ C, wordsA W = C := ⟨_, rfl⟩
  rw [eC] at hi64 hs64 hone
  simp only [eC] at hC
  have HC := Lib.hid eC
  have HW := Lib.hid hWl
  have H8 := Lib.hid hi8
  have HO := Lib.hid hone8
  have HL := Lib.hid hL
  clear eC eW hW hWl hi8 hone8 hL hs
  obtain ⟨c8, e8⟩ : ∃ c8, cells8 x = c8 := ⟨_, rfl⟩
  have hi8x := H8.out x
  rw [e8] at hi8x ⊢
  have E8 := Lib.hid e8
  clear e8
  go_enter Tryd.func35, Tryd.ntmps35
  go_wp2_with (first
    | (go_at_call 42; ((with_reducible refine (hC _).mono ?_); rintro e w1 ⟨rfl, h1⟩; have g2 := Lib.hid ((h1.block w.heap.size (by rw [World.size_alloc, World.size_alloc]; omega)).trans (heap_alloc2_old w _ _)); have g4 := Lib.hid ((h1.block (w.heap.size + 1) (by rw [World.size_alloc, World.size_alloc]; omega)).trans (heap_alloc2_new w _ _)); have hz1 : w.heap.size + 2 ≤ w1.heap.size := (by have := h1.size; simpa using this)))
    | (refine wpList_store_new (by rfl) 82 (.tmp 5) (.tmp 16) (by rfl) w1.heap.size rfl C (wordsA (List.replicate 64 0)) 82 (by rfl) (by rfl) hi64 hs64 hone ?_)
    | (refine wpList_load_row (by rfl) 70 (.tmp 2) (by rfl) w.heap.size (by rfl) 70 c8 (0, 0) _ ((Below.heap_alloc _ _ _ (by omega)).trans g2.out) Tryd.underlying70 rfl hi8x ?_)
    | (refine wpList_store_new (by rfl) 70 (.tmp 6) (.tmp 17) (by rfl) (w1.heap.size + 1) (by simp) c8 (cells8 ⟨0, 0, 0, 0, 0, 0, 0, 0⟩) 70 (by rfl) (by rfl) hi8x (by rw [← E8.out]; rfl) (by rw [← E8.out]; exact HO.out _) ?_))
  go_loopw [18] (fun i wr => MixRel w x W w1.heap.size i wr) (fun i _ => 64 - (intOf i).toNat)
  case atStart =>
    have hb1 : Below w.heap.size w w1 := (((Below.refl _ _).alloc (Nat.le_refl _) _).alloc (by simp) _).trans (h1.mono (by simp; omega))
    refine ⟨0, by omega, rfl, ⟨(hb1.alloc (by omega) _).alloc (by simp; omega) _, hz1, by simp, ?_, ?_, ?_, ?_⟩, ?_⟩
    · rw [Below.heap_alloc _ _ _ (by simp; omega), Below.heap_alloc _ _ _ (by omega), g2.out, E8.out]
    · rw [Below.heap_alloc _ _ _ (by simp; omega), Below.heap_alloc _ _ _ (by omega), g4.out]; rfl
    · rw [heap_alloc2_old, HC.out]
    · exact HL.out.below ((hb1.alloc (by omega) _).alloc (by simp; omega) _) HL.out.size
    · rw [rnds_zero, E8.out]; exact heap_alloc2_new _ _ _
  case round =>
    obtain ⟨k, hk, rfl, hI, h6⟩ := hrel
    by_cases hlt : k < 64
    · obtain ⟨hwk, lw⟩ := HW.out k hlt
      have hkk := keys_get k hlt
      have hrd := rnds_succ x W k (by have h := congrArg Array.size HC.out; rw [wordsA_size] at h; have h2 := hs64; rw [wordsA_size] at h2; simp at h2; omega) hlt
      obtain ⟨o0, o1, o2, o3, o4, o5, o6, o7⟩ := rnds_ok hx W k
      have cw : wr.cell? ⟨w1.heap.size, k, none⟩ = some (.int .u32 (W.getD k 0 : Nat)) := (cell_of_row _ _ _ _ _ _ hI.h5).trans (wordsA_get _ _ _ hwk)
      obtain ⟨TK, hTK⟩ := hI.l.2
      have ck : wr.cell? ⟨1, k, none⟩ = some (.int .u32 (KEYS.getD k 0 : Nat)) := (cell_of_row _ _ _ _ _ _ hTK).trans (wordsA_get _ _ _ hkk)
      clear hTK
      generalize W.getD k 0 = wk at cw hrd lw
      generalize KEYS.getD k 0 = kk at ck hrd
      have HI := Lib.hid hI
      clear hI hwk hkk
      generalize hy : rnds x W k = y at hrd o0 o1 o2 o3 o4 o5 o6 o7 h6
      clear hy
      obtain ⟨y0, y1, y2, y3, y4, y5, y6, y7⟩ := y
      simp only at o0 o1 o2 o3 o4 o5 o6 o7
      have d0 : wr.cell? ⟨w1.heap.size + 1, 0, none⟩ = some (.int .u32 (y0 : Nat)) := (cell_of_row _ _ _ _ _ _ h6).trans rfl
      have d1 : wr.cell? ⟨w1.heap.size + 1, 1, none⟩ = some (.int .u32 (y1 : Nat)) := (cell_of_row _ _ _ _ _ _ h6).trans rfl
      have d2 : wr.cell? ⟨w1.heap.size + 1, 2, none⟩ = some (.int .u32 (y2 : Nat)) := (cell_of_row _ _ _ _ _ _ h6).trans rfl
      have d3 : wr.cell? ⟨w1.heap.size + 1, 3, none⟩ = some (.int .u32 (y3 : Nat)) := (cell_of_row _ _ _ _ _ _ h6).trans rfl
      have d4 : wr.cell? ⟨w1.heap.size + 1, 4, none⟩ = some (.int .u32 (y4 : Nat)) := (cell_of_row _ _ _ _ _ _ h6).trans rfl
      have d5 : wr.cell? ⟨w1.heap.size + 1, 5, none⟩ = some (.int .u32 (y5 : Nat)) := (cell_of_row _ _ _ _ _ _ h6).trans rfl
      have d6 : wr.cell? ⟨w1.heap.size + 1, 6, none⟩ = some (.int .u32 (y6 : Nat)) := (cell_of_row _ _ _ _ _ _ h6).trans rfl
      have d7 : wr.cell? ⟨w1.heap.size + 1, 7, none⟩ = some (.int .u32 (y7 : Nat)) := (cell_of_row _ _ _ _ _ _ h6).trans rfl
      have H6 := Lib.hid h6
      have HR := Lib.hid hrd
      clear h6 hrd
      have b0 : (0 : Int) ≤ (k : Int) := by omega
      have b1 : (k : Int) < 64 := by omega
      go_wp2
      refine region_still (by kernel_rfl) (by kernel_rfl) ?_
      repeat still_step
      refine wpStill_nil ?_
      go_wp2
      refine region_still (by kernel_rfl) (by kernel_rfl) ?_
      repeat still_step
      still_call (C_turn6 _ o4 _)
      repeat still_step
      still_call (C_turn11 _ o4 _)
      repeat still_step
      still_call (C_turn25 _ o4 _)
      repeat still_step
      refine wpStill_nil ?_
      rw [T_expr y7 y4 y5 y6 kk wk o4 o5 o6]
      obtain ⟨t, et⟩ : ∃ t, t = (y7 + Sg1 y4 + chs y4 y5 y6 + kk + wk) % 4294967296 := ⟨_, rfl⟩
      rw [← et]
      have ET := Lib.hid et
      clear et ck cw d0 d1 d2 d4 d7
      obtain ⟨u, eu⟩ : ∃ u, u = (Sg0 y0 + maj y0 y1 y2) % 4294967296 := ⟨_, rfl⟩
      have hU : (bits .xor .u32 (bits .xor .u32 (rotr 2 y0 : Nat) (rotr 13 y0 : Nat)) (rotr 22 y0 : Nat) + bits .xor .u32 (bits .xor .u32 (bits .and .u32 (y0 : Int) (y1 : Int)) (bits .and .u32 (y0 : Int) (y2 : Int))) (bits .and .u32 (y1 : Int) (y2 : Int))) % 4294967296 = (u : Int) := by rw [eu]; exact U_expr y0 y1 y2 o0 o1 o2
      have EU := Lib.hid eu
      clear eu
      obtain ⟨na, ena⟩ : ∃ na, na = (t + u) % 4294967296 := ⟨_, rfl⟩
      obtain ⟨ne, ene⟩ : ∃ ne, ne = (y3 + t) % 4294967296 := ⟨_, rfl⟩
      have hA : ((t : Int) + (u : Int)) % 4294967296 = (na : Int) := by omega
      have hE : ((y3 : Int) + (t : Int)) % 4294967296 = (ne : Int) := by omega
      have EA := Lib.hid ena
      have EE := Lib.hid ene
      clear ena ene
      go_wp2_with (first
        | (go_at_call 43; ((with_reducible refine (C_turn2 _ o0 _).mono ?_); rintro e v1 ⟨rfl, rfl⟩))
        | (go_at_call 43; ((with_reducible refine (C_turn13 _ o0 _).mono ?_); rintro e v1 ⟨rfl, rfl⟩))
        | (go_at_call 43; ((with_reducible refine (C_turn22 _ o0 _).mono ?_); rintro e v1 ⟨rfl, rfl⟩))
        | (refine wpList_store_row (by rfl) 70 (.tmp 6) (.tmp 94) (by rfl) (w1.heap.size + 1) (cells8 ⟨na, y0, y1, y2, ne, y4, y5, y6⟩) (cells8 ⟨y0, y1, y2, y3, y4, y5, y6, y7⟩) 70 (by rfl) (by rfl) H6.out (H8.out _) rfl (HO.out _) ?_))
      go_roundw
      case rel =>
        have hI := HI.out
        refine ⟨k + 1, by omega, by go_num, ⟨setRow_below hI.b.drew.drew _ _ (by have := hI.n; omega), hI.n, by rw [size_setRow]; exact hI.z, ?_, ?_, ?_, ?_⟩, ?_⟩
        · exact (setRow_other _ _ _ _ (by have := hI.n; omega)).trans hI.h2
        · exact (setRow_other _ _ _ _ (by have := hI.n; omega)).trans hI.h4
        · exact (setRow_other _ _ _ _ (by omega)).trans hI.h5
        · exact hI.l.below (setRow_below (Below.refl 2 wr).drew.drew _ _ (by have := hI.n; have := HL.out.size; omega)) (Nat.le_refl _)
        · rw [HR.out]
          refine (setRow_heap _ _ _ _ _ _ (show wr.drew.drew.heap[w1.heap.size + 1]? = _ from H6.out)).trans ?_
          rw [EA.out, EE.out, EU.out, ET.out]
          rfl
      case measure => simp [intOf]; omega
    · obtain rfl : k = 64 := by omega
      obtain ⟨hb, hn, hz, h2, h4, h5, hl⟩ := hI
      clear h5 hl
      obtain ⟨y, ey⟩ : ∃ y, rnds x W 64 = y := ⟨_, rfl⟩
      rw [ey] at h6
      have EY := Lib.hid ey
      clear ey
      rw [show ((64 : Nat) : Int) = 64 from rfl]
      go_wp2
      go_loopw [96] (fun i wr => Mix2Rel w x y w1.heap.size i wr) (fun i _ => 8 - (intOf i).toNat)
      case atStart => exact ⟨0, by omega, rfl, hb, h2, h4, h6⟩
      case round =>
        clear hb h2 h4 h6
        obtain ⟨k, hk, rfl, hb, h2, h4, h6⟩ := hrel
        by_cases hlt : k < 8
        · obtain ⟨p, q, hp, hq, hpq⟩ := add_at x y k hlt
          have c1 : wr.cell? ⟨w.heap.size, k, none⟩ = some (.int .u32 (p : Nat)) := (cell_of_row _ _ _ _ _ _ h2).trans (addC_at x y k p hlt hp)
          have f1 : wr.frozen? ⟨w.heap.size, k, none⟩ = false := frozen_of_row _ _ _ _ _ h2
          have c2 : wr.cell? ⟨w1.heap.size + 1, k, none⟩ = some (.int .u32 (q : Nat)) := (cell_of_row _ _ _ _ _ _ h6).trans (by rw [← words8]; exact wordsA_get _ _ _ hq)
          obtain ⟨r, er⟩ : ∃ r, r = (p + q) % 4294967296 := ⟨_, rfl⟩
          have hr : IntKind.u32.wrap ((p : Int) + (q : Int)) = (r : Int) := by rw [er]; exact wrap32_add p q
          rw [← er] at hpq
          have HPQ := Lib.hid hpq
          have H2 := Lib.hid h2
          have H4 := Lib.hid h4
          have H6 := Lib.hid h6
          clear hpq er hp hq h2 h4 h6
          have b0 : (0 : Int) ≤ (k : Int) := by omega
          have b1 : (k : Int) < 8 := by omega
          go_wp2
          refine region_tail 8 (by kernel_rfl) (by kernel_rfl) ?_
          simp only [List.take_succ_cons, List.take_zero, List.drop_succ_cons, List.drop_zero]
          repeat still_step
          refine wpStill_nil ?_
          go_wp2
          go_roundw
          case rel =>
            refine ⟨k + 1, by omega, by go_num, hb.drew.setCell (Nat.le_refl _) _, ?_, ?_, ?_⟩
            · exact (heap_setCell_same _ _ _ _ _ _ H2.out).trans (by rw [addC_set x y k r hlt HPQ.out])
            · exact (heap_setCell_other _ _ _ _ (by simp)).trans H4.out
            · exact (heap_setCell_other _ _ _ _ (by simp; omega)).trans H6.out
          case measure => simp [intOf]; omega
        · obtain rfl : k = 8 := by omega
          rw [addC_full] at h2
          have hi := H8.out (addS x y)
          have hone' := HO.out (addS x y)
          have hs' : (cells8 ⟨0, 0, 0, 0, 0, 0, 0, 0⟩).size = (cells8 (addS x y)).size := rfl
          obtain ⟨D, eD⟩ : ∃ D, cells8 (addS x y) = D := ⟨_, rfl⟩
          rw [eD] at h2 hi hone' hs'
          have ED := Lib.hid eD
          clear eD
          have H2 := Lib.hid h2
          have H4 := Lib.hid h4
          clear h2 h4 h6
          go_wp2_with (first
            | (refine wpList_load_row (by rfl) 70 (.tmp 2) (by rfl) w.heap.size (by rfl) 70 D (0, 0) _ H2.out Tryd.underlying70 rfl hi ?_)
            | (refine wpList_store_row (by rfl) 70 (.tmp 4) (.tmp 108) (by rfl) (w.heap.size + 1) D (cells8 ⟨0, 0, 0, 0, 0, 0, 0, 0⟩) 70 (by rfl) (by rfl) H4.out hi hs' hone' ?_))
          exact bodyPost_ret (results_cell_row rfl _ _ (w.heap.size + 1) 70 D (0, 0) _ (by rfl) (setRow_heap _ _ _ _ _ _ H4.out) Tryd.underlying70 rfl hi) rfl ⟨by rw [EY.out, ED.out], setRow_below hb _ _ (by omega)⟩
end Go.Proofs.YtdpkodhfelnedaaDoor.Cod
