/- DigestParts: the walk, by what each call means. -/
import Derived.Test.YtgdpbnmhhbnkgaaDoorWalkDigestHex
import Derived.Test.YtgdpbnmhhbnkgaaDoorFix4
namespace Go.Proofs.YtgdpbnmhhbnkgaaDoor.Cod
open Go.RowKit
theorem add_block (a : Addr) (j : Nat) : (a.add j).block = a.block := by unfold Addr.add; split <;> rfl
def cut30 (s : ByteArray) : ByteArray := S ((bl s).take 30)
theorem cut30_size (s : ByteArray) : (cut30 s).size ≤ 30 := by unfold cut30; rw [S_size, List.length_take]; exact Nat.min_le_left _ _
def partsL (l : List ByteArray) : List ByteArray := l.flatMap fun s => [cut30 s, ⟨#[]⟩]
def prow (l : List ByteArray) : List Value := (partsL l).map fun s => .string s
theorem partsL_len (l : List ByteArray) : (partsL l).length = 2 * l.length := by
  unfold partsL
  induction l with
  | nil => rfl
  | cons a l ih => rw [List.flatMap_cons, List.length_append, ih]; simp; omega
theorem partsL_take (l : List ByteArray) (k : Nat) (s : ByteArray) (h : l[k]? = some s) : partsL (l.take (k + 1)) = partsL (l.take k) ++ [cut30 s, ⟨#[]⟩] := by
  unfold partsL; rw [List.take_add_one, h, List.flatMap_append]; simp
theorem allOf_take (l : List ByteArray) (k : Nat) (s : ByteArray) (h : l[k]? = some s) : allOf (partsL (l.take (k + 1))) = allOf (partsL (l.take k)) ++ bl (cut30 s) := by
  rw [partsL_take l k s h]; unfold allOf; rw [List.map_append, List.flatten_append]; simp [bl]
theorem allOf_len (l : List ByteArray) : (allOf (partsL l)).length ≤ 30 * l.length := by
  induction l with
  | nil => simp [partsL, allOf]
  | cons a l ih =>
    have e : allOf (partsL (a :: l)) = bl (cut30 a) ++ allOf (partsL l) := by unfold partsL allOf; rw [List.flatMap_cons, List.map_append, List.flatten_append]; simp [bl]
    have := cut30_size a
    rw [e, List.length_append, bl_len, List.length_cons]
    omega
theorem own_texts {w : World} {base n : Nat} {v : Value} {xs : List ByteArray} (h : w.ownsRow base 9 1 v n (xs.map fun s => .string s)) (hn : n = xs.length) : ∃ A c, v = .slice A xs.length c ∧ TextsAt w A c xs := by
  subst hn
  have h' := h
  rcases h.2 with ⟨rfl, h0⟩ | ⟨g, cap, cur, rfl, hb, hg, hcap, _⟩
  · exact ⟨none, 0, by rw [h0], by omega, fun h => by omega⟩
  · refine ⟨_, cap, rfl, hcap, fun _ => ⟨g, 0, rfl, (Array.getElem?_eq_some_iff.1 hg).1, fun j x hx => ?_⟩⟩
    have := h'.cells (g := g) rfl j (.string x) (by simp [hx])
    rwa [Addr.add_mid] at this
set_option maxHeartbeats 800000 in
set_option maxRecDepth 100000 in
theorem C_cut30 (s : ByteArray) (hs : s.size ≤ maxLen) (w : World) :
    Calls Tryd.prog 30 #[.string s, .int .i64 30] w fun e w' => e = .returned (.string (cut30 s)) ∧ w = w' := by
  unfold maxLen at hs
  have hl := bl_len s
  by_cases h : (s.size : Int) > 30
  · have h' : (30 : Int) < (s.size : Int) := h
    go_enter Tryd.func30, Tryd.ntmps30
    go_wp2
    go_ret
    exact ⟨ret_str (by rw [cut30, ← bl_take, S_bl]), rfl⟩
  · have h' : (s.size : Int) ≤ 30 := by omega
    go_enter Tryd.func30, Tryd.ntmps30
    go_wp2
    go_ret
    exact ⟨ret_str (by rw [cut30, List.take_of_length_le (by omega), S_bl]), rfl⟩
theorem C_dig1b (a : ByteArray) (hs : a.size ≤ 1000000) (w : World) (hL : Laid w) : Calls Tryd.prog 16 #[.slice (some ⟨w.heap.size, 0, none⟩) 1 1] (w.alloc (Text1 a)) fun e w' => e = .returned (idv (sha (bl a))) ∧ Below (w.alloc (Text1 a)).heap.size (w.alloc (Text1 a)) w' := by
  have hb := (Below.refl w.heap.size w).alloc (Nat.le_refl _) (Text1 a)
  have e : allOf [a] = bl a := by simp [allOf]
  have := C_dig _ 1 [a] _ (text_at w a) (by simp) (by rw [e, bl_len]; omega) (hL.below hb (by have := hL.size; omega))
  rw [e] at this
  exact this
def PtRel (w : World) (ss : List ByteArray) (a p i : Value) (wr : World) : Prop :=
  ∃ (k : Nat) (t : ByteArray), k ≤ ss.length ∧ k ≤ 12 ∧ i = .int .i64 k ∧ a = .string t ∧ bl t = allOf (partsL (ss.take k)) ∧ wr.ownsRow w.heap.size 9 1 p (2 * k) (prow (ss.take k)) ∧ Below w.heap.size w wr
def SpecPt (X : ByteArray) (t : ByteArray) (DC : Array Value) (N : Nat) : Nat → World → World → Value → Prop
  | 3, W, W', u => Below W.heap.size W W' ∧ u = .string X
  | 4, W, W', u => W' = W ∧ u = .bool true
  | 5, W, W', u => W' = W ∧ u = .bool true
  | 7, W, W', u => W' = W.alloc (Text1 t) ∧ u = .slice (some ⟨W.heap.size, 0, none⟩) 1 1
  | 8, W, W', u => Below W.heap.size W W' ∧ u = .agg DC
  | 10, W, W', u => W' = W ∧ u = .bool true
  | 11, W, W', u => W' = W ∧ u = .bool true
  | 12, W, W', u => W' = W ∧ u = .bool true
  | 14, W, W', u => Below W.heap.size W W' ∧ u = .int .u32 (N : Int)
  | 16, W, W', u => W' = W.alloc (Text1 t) ∧ u = .slice (some ⟨W.heap.size, 0, none⟩) 1 1
  | 17, W, W', u => Below W.heap.size W W' ∧ u = .int .u32 (N : Int)
  | _, W, W', _ => W' = W
theorem specPt_tot (X t : ByteArray) (DC : Array Value) (N : Nat) (i : Nat) (W : World) : ∃ W' u, SpecPt X t DC N i W W' u := by
  rcases i with _ | _ | _ | _ | _ | _ | _ | _ | _ | _ | _ | _ | _ | _ | _ | _ | _ | _ | i
  · exact ⟨W, undef, rfl⟩
  · exact ⟨W, undef, rfl⟩
  · exact ⟨W, undef, rfl⟩
  · exact ⟨W, _, Below.refl _ _, rfl⟩
  · exact ⟨W, _, rfl, rfl⟩
  · exact ⟨W, _, rfl, rfl⟩
  · exact ⟨W, undef, rfl⟩
  · exact ⟨_, _, rfl, rfl⟩
  · exact ⟨W, _, Below.refl _ _, rfl⟩
  · exact ⟨W, undef, rfl⟩
  · exact ⟨W, _, rfl, rfl⟩
  · exact ⟨W, _, rfl, rfl⟩
  · exact ⟨W, _, rfl, rfl⟩
  · exact ⟨W, undef, rfl⟩
  · exact ⟨W, _, Below.refl _ _, rfl⟩
  · exact ⟨W, undef, rfl⟩
  · exact ⟨_, _, rfl, rfl⟩
  · exact ⟨W, _, Below.refl _ _, rfl⟩
  · exact ⟨W, undef, rfl⟩
/-- a slice of texts as it stands among a law's arguments -/
def ArgTexts (w : World) (A : Option Addr) (ss : List ByteArray) : Prop := (0 < ss.length → ∃ a, A = some a ∧ a.block < w.heap.size ∧ ∀ (j : Nat) x, ss[j]? = some x → w.cell? (a.add j) = some (.string x)) ∧ ∀ s ∈ ss, s.size ≤ maxLen
set_option maxHeartbeats 4000000 in
set_option maxRecDepth 100000 in
theorem W_DigestParts (A : Option Addr) (len cap : Nat) (ss : List ByteArray) (hlen : ss.length = len) (hmax : len ≤ maxLen) (w : World) (hT : ArgTexts w A ss) (hL : Laid w) (hR : ∀ (s : ByteArray), s.size ≤ 400 → ∀ v, Calls Tryd.prog 31 #[.string s] v fun e w' => e = .returned (.string (S (sha (bl s)))) ∧ Below v.heap.size v w') :
    Calls Tryd.prog 6 #[.slice A len cap] w fun e w' => e = .returned (.bool true) ∧ Below w.heap.size w w' := by
  subst hlen
  unfold maxLen at hmax
  have hA := C_awd w hL
  have HL := Lib.hid hL
  have HT := Lib.hid hT
  clear hL hT
  obtain ⟨i0, hi, hz0, hz1, hz2⟩ : ∃ i0, Tryd.prog.info? 9 = some i0 ∧ i0.zero = some (.string ⟨#[]⟩) ∧ i0.size = 1 ∧ i0.bytes = 16 := info_parts (by kernel_rfl)
  go_enter Tryd.func6, Tryd.ntmps6
  go_wp2_with (go_at_call 29; ((with_reducible refine hA.mono ?_); rintro e w1 ⟨rfl, f1⟩))
  go_loopw [3, 4, 5] (fun a p i wr => PtRel w1 ss a p i wr) (fun _ _ i _ => 12 - (intOf i).toNat)
  case atStart => exact ⟨0, _, by omega, by omega, rfl, rfl, by simp [partsL, allOf, bl], World.ownsRow_nil _ _ _ _, Below.refl _ _⟩
  case round =>
    obtain ⟨k, t, hk, hk12, rfl, rfl, ht, hown, hb⟩ := hrel
    have hts : t.size ≤ 30 * k := by rw [bl_size ht]; exact Nat.le_trans (allOf_len _) (by rw [List.length_take]; omega)
    have hts2 : t.size ≤ 360 := by omega
    have b0 : (0 : Int) ≤ (k : Int) := by omega
    by_cases hlt : k < ss.length ∧ k < 12
    · obtain ⟨hl1, hl2⟩ := hlt
      obtain ⟨x, hx⟩ : ∃ x, ss[k]? = some x := ⟨_, List.getElem?_eq_getElem hl1⟩
      obtain ⟨a, rfl, hab, hcell⟩ := HT.out.1 (by omega)
      have hxs := HT.out.2 x (List.mem_of_getElem? hx)
      have hc1 : wr.cell? (a.add k) = some (.string x) := (hb.cell (p := a.add k) (by rw [add_block]; have := f1.size; omega)).trans ((f1.cell (p := a.add k) (by rw [add_block]; exact hab)).trans (hcell k x hx))
      have hcut := fun v => C_cut30 x hxs v
      have hcs := cut30_size x
      have hal := allOf_take ss k x hx
      have hpl : prow (ss.take (k + 1)) = prow (ss.take k) ++ [.string (cut30 x), .string ⟨#[]⟩] := by unfold prow; rw [partsL_take ss k x hx, List.map_append]; rfl
      obtain ⟨z, ez⟩ : ∃ z, cut30 x = z := ⟨_, rfl⟩
      rw [ez] at hcut hcs hal hpl
      have b1 : (k : Int) < (ss.length : Int) := by omega
      have b2 : (k : Int) < 12 := by omega
      have HX := Lib.hid hx
      have HAL := Lib.hid hal
      have HPL := Lib.hid hpl
      have HB := Lib.hid hb
      have HTT := Lib.hid ht
      have HOWN := Lib.hid hown
      clear hx hal hpl ez hb ht hown hcell
      go_wp2_with (first
        | (go_at_call 30; ((with_reducible refine (hcut _).mono ?_); rintro e w2 ⟨rfl, rfl⟩))
        | (at_builtin; refine wpList_append_own _ rfl _ _ 22 rfl w1.heap.size 9 i0 (.string ⟨#[]⟩) 1 16 Tryd.underlying22 hi hz0 hz1 hz2 rfl (by decide) _ _ _ rfl (HOWN.out.alloc _) ⟨wr.heap.size, 0, none⟩ 2 2 [.string z, .string ⟨#[]⟩] rfl rfl ?c1 ?c2 ?c3 ?c4 ?c5 ?_))
      case c1 =>
        intro j' u hu
        rw [Addr.add_mid, Nat.zero_add]
        refine (cell_of_row _ _ _ _ _ _ (heap_alloc_new wr _)).trans ?_
        simpa using hu
      case c2 =>
        intro u hu
        simp only [List.mem_cons, List.not_mem_nil, or_false] at hu
        rcases hu with rfl | rfl <;> rfl
      case c3 => unfold maxLen; omega
      case c4 => omega
      case c5 => have := HB.out.size; simp; omega
      intro v' w2 hown' hgrow _
      have HO := Lib.hid hown'
      have HG := Lib.hid hgrow
      clear hown' hgrow
      go_wp2
      go_roundw
      case rel =>
        refine ⟨k + 1, _, by omega, by omega, by go_num, rfl, ?_, ?_, ?_⟩
        · rw [bl_append, HTT.out, HAL.out]
        · rw [HPL.out, show 2 * (k + 1) = 2 * k + 2 by omega]; exact HO.out
        · exact (HB.out.alloc HB.out.size _).grown HG.out (by have := HB.out.size; simp; omega) (fun j hj => (HOWN.out.lt j hj).1)
      case measure => simp [intOf]; omega
    · have hkk : k = ss.length ∨ k = 12 := by omega
      have hle : (ss.take k).length ≤ 12 := by rw [List.length_take]; omega
      obtain ⟨PA, PC, hpv, hpt⟩ := own_texts hown (by rw [partsL_len, List.length_take]; omega)
      subst hpv
      have hpl := partsL_len (ss.take k)
      have hal := allOf_len (ss.take k)
      have hb1 : Below w.heap.size w wr := f1.trans (hb.mono f1.size)
      obtain ⟨D, eD⟩ : ∃ D, sha (bl t) = D := ⟨_, rfl⟩
      have hD32 : D.length = 32 := by rw [← eD]; exact sha_len _
      have hD := C_dig PA PC (partsL (ss.take k)) wr hpt (by omega) (by omega) (HL.out.below hb1 (by have := HL.out.size; omega))
      have hC1 := fun v (hv : Below wr.heap.size wr v) (hl : Laid v) => C_dcheck PA PC (partsL (ss.take k)) v (hpt.below hv) (by omega) (by omega) hl
      have hC2 := fun v A' (hx : TextsAt v A' 1 [t]) (hl : Laid v) => C_dcheck A' 1 [t] v hx (by simp) (by rw [show allOf [t] = bl t by simp [allOf], bl_len]; omega) hl
      have hD1' := fun v (hl : Laid v) => C_dig1b t (by omega) v hl
      have hRt := hR t (by omega)
      rw [← ht, eD] at hD
      simp only [← ht] at hC1
      simp only [show allOf [t] = bl t by simp [allOf]] at hC2
      simp only [eD] at hC1 hC2 hD1'
      rw [eD] at hRt
      obtain ⟨N, eN⟩ : ∃ N, be4 D 0 = N := ⟨_, rfl⟩
      simp only [eN] at hC1 hC2
      have hconvD := fun (W : World) (b : Nat) (h : W.heap[b]? = some (.cells (Lib.byteCells D).toArray 31 (0, 0))) => convID W b D hD32 (0, 0) h
      have heq := fun W => eqId D D hD32 hD32 W 9998
      simp only [decide_true] at heq
      unfold idv at hD hD1' heq
      have hDi : (Tryd.prog.info? 31).map (·.size) = some (Lib.byteCells D).toArray.size := by rw [show (Lib.byteCells D).toArray.size = 32 by simp [Lib.byteCells, hD32]]; kernel_rfl
      have hDs : Z32.size = (Lib.byteCells D).toArray.size := by rw [show (Lib.byteCells D).toArray.size = 32 by simp [Lib.byteCells, hD32]]; rfl
      have hDo : (Lib.byteCells D).toArray.all (·.oneCell') = true := by simp [Lib.byteCells, Value.oneCell']
      obtain ⟨DC, eDC⟩ : ∃ DC, (Lib.byteCells D).toArray = DC := ⟨_, rfl⟩
      obtain ⟨X, eX⟩ : ∃ X, S D = X := ⟨_, rfl⟩
      simp only [eDC, eX] at hconvD heq hD1'
      rw [eDC] at hD hDi hDs hDo
      rw [eX] at hRt
      obtain ⟨pl, epl⟩ : ∃ pl, (partsL (ss.take k)).length = pl := ⟨_, rfl⟩
      rw [epl] at hD ⊢
      simp only [epl] at hC1
      clear hpl epl
      have HCV := Lib.hid hconvD
      have HC1 := Lib.hid hC1
      have HC2 := Lib.hid hC2
      have HD1 := Lib.hid hD1'
      have HPT := Lib.hid hpt
      have HTT := Lib.hid ht
      have HOWN := Lib.hid hown
      clear hconvD hC1 hC2 hD1' hpt ht hown eDC eX eN eD hal hb hle
      have hbb : ((k : Int) < (ss.length : Int) ∧ ¬ (k : Int) < 12) ∨ ¬ (k : Int) < (ss.length : Int) := by omega
      clear hlt hkk
      rcases hbb with ⟨b1, b2⟩ | b1
      all_goals (
        go_wp2_with (first
          | (go_at_call 16; ((with_reducible refine hD.mono ?_); rintro e w2 ⟨rfl, f2⟩))
          | (refine wpList_store_new (by rfl) 31 (.tmp 7) (.tmp 33) (by rfl) w2.heap.size (by rfl) DC Z32 31 (by rfl) (by rfl) hDi hDs hDo ?_))
        have hb3 := hb1.trans (f2.mono hb1.size)
        obtain ⟨w3, e3⟩ : ∃ w3, w2.alloc (.cells DC 31) = w3 := ⟨_, rfl⟩
        have h3 : w3.heap[w2.heap.size]? = some (.cells DC 31 (0, 0)) := by rw [← e3]; exact heap_alloc_new _ _
        have hb4 : Below w.heap.size w w3 := by rw [← e3]; exact hb3.alloc hb3.size _
        have hz3 : w2.heap.size < w3.heap.size := by rw [← e3]; simp
        have hr3 : Below wr.heap.size wr w3 := by rw [← e3]; exact f2.alloc f2.size _
        rw [e3]
        have HC1 := Lib.hid fun v (hv : Below w3.heap.size w3 v) (hl : Laid v) => HC1.out v (hr3.trans (hv.mono hr3.size)) hl
        refine region_fix4 [[3, 4, 5, 7, 8, 10, 11, 12, 14, 16, 17], [3, 4, 5, 7, 8, 10, 11, 12, 16, 14, 17]] [3, 4, 5, 7, 8, 10, 11, 12, 14, 16, 17] rfl (SpecPt X t DC N) (by kernel_rfl) (by kernel_rfl) (specPt_tot _ _ _ _) fun E hE g g0 hC => ?_
        rcases List.mem_cons.1 hE with rfl | hE
        · clear hE
          have c0 : Below (g 0).1.heap.size (g 0).1 (g 1).1 := (hC 0 (by decide)).1
          have q0 : (g 1).2 = .string X := (hC 0 (by decide)).2
          have c1 : (g 2).1 = (g 1).1 := (hC 1 (by decide)).1
          have q1 : (g 2).2 = .bool true := (hC 1 (by decide)).2
          have c2 : (g 3).1 = (g 2).1 := (hC 2 (by decide)).1
          have q2 : (g 3).2 = .bool true := (hC 2 (by decide)).2
          have c3 : (g 4).1 = (g 3).1.alloc (Text1 t) := (hC 3 (by decide)).1
          have q3 : (g 4).2 = .slice (some ⟨(g 3).1.heap.size, 0, none⟩) 1 1 := (hC 3 (by decide)).2
          have c4 : Below (g 4).1.heap.size (g 4).1 (g 5).1 := (hC 4 (by decide)).1
          have q4 : (g 5).2 = .agg DC := (hC 4 (by decide)).2
          have c5 : (g 6).1 = (g 5).1 := (hC 5 (by decide)).1
          have q5 : (g 6).2 = .bool true := (hC 5 (by decide)).2
          have c6 : (g 7).1 = (g 6).1 := (hC 6 (by decide)).1
          have q6 : (g 7).2 = .bool true := (hC 6 (by decide)).2
          have c7 : (g 8).1 = (g 7).1 := (hC 7 (by decide)).1
          have q7 : (g 8).2 = .bool true := (hC 7 (by decide)).2
          have c8 : Below (g 8).1.heap.size (g 8).1 (g 9).1 := (hC 8 (by decide)).1
          have q8 : (g 9).2 = .int .u32 (N : Int) := (hC 8 (by decide)).2
          have c9 : (g 10).1 = (g 9).1.alloc (Text1 t) := (hC 9 (by decide)).1
          have q9 : (g 10).2 = .slice (some ⟨(g 9).1.heap.size, 0, none⟩) 1 1 := (hC 9 (by decide)).2
          have c10 : Below (g 10).1.heap.size (g 10).1 (g 11).1 := (hC 10 (by decide)).1
          have q10 : (g 11).2 = .int .u32 (N : Int) := (hC 10 (by decide)).2
          clear hC
          have bl0 : Below w3.heap.size w3 (g 0).1 := by rw [g0]; exact (Below.refl _ _).drew
          have bl1 := bl0.trans (c0.mono bl0.size)
          have bl2 : Below w3.heap.size w3 (g 2).1 := by rw [c1]; exact bl1
          have bl3 : Below w3.heap.size w3 (g 3).1 := by rw [c2]; exact bl2
          have bl4 : Below w3.heap.size w3 (g 4).1 := by rw [c3]; exact bl3.alloc bl3.size _
          have bl5 := bl4.trans (c4.mono bl4.size)
          have bl6 : Below w3.heap.size w3 (g 6).1 := by rw [c5]; exact bl5
          have bl7 : Below w3.heap.size w3 (g 7).1 := by rw [c6]; exact bl6
          have bl8 : Below w3.heap.size w3 (g 8).1 := by rw [c7]; exact bl7
          have bl9 := bl8.trans (c8.mono bl8.size)
          have bl10 : Below w3.heap.size w3 (g 10).1 := by rw [c9]; exact bl9.alloc bl9.size _
          have bl11 := bl10.trans (c10.mono bl10.size)
          have LL4 := HL.out.below (hb4.trans (bl4.mono hb4.size)) (by have := HL.out.size; omega)
          have LL8 := HL.out.below (hb4.trans (bl8.mono hb4.size)) (by have := HL.out.size; omega)
          have LL10 := HL.out.below (hb4.trans (bl10.mono hb4.size)) (by have := HL.out.size; omega)
          have h8 := HD1.out (g 3).1 (HL.out.below (hb4.trans (bl3.mono hb4.size)) (by have := HL.out.size; omega))
          rw [← c3] at h8
          have h14 := HC1.out (g 8).1 (bl8) LL8
          have htx : TextsAt (g 10).1 (some ⟨(g 9).1.heap.size, 0, none⟩) 1 [t] := by have h := text_at (g 9).1 t; rw [show (g 9).1.alloc (.cells #[.string t] 9) = (g 10).1 from c9.symm] at h; exact h
          have h17 := HC2.out (g 10).1 _ htx LL10
          have CC0 := Lib.hid c0
          have QQ0 := Lib.hid q0
          have CC1 := Lib.hid c1
          have QQ1 := Lib.hid q1
          have CC2 := Lib.hid c2
          have QQ2 := Lib.hid q2
          have CC3 := Lib.hid c3
          have QQ3 := Lib.hid q3
          have CC4 := Lib.hid c4
          have QQ4 := Lib.hid q4
          have CC5 := Lib.hid c5
          have QQ5 := Lib.hid q5
          have CC6 := Lib.hid c6
          have QQ6 := Lib.hid q6
          have CC7 := Lib.hid c7
          have QQ7 := Lib.hid q7
          have CC8 := Lib.hid c8
          have QQ8 := Lib.hid q8
          have CC9 := Lib.hid c9
          have QQ9 := Lib.hid q9
          have CC10 := Lib.hid c10
          have QQ10 := Lib.hid q10
          have G0 := Lib.hid g0
          clear c0 q0 c1 q1 c2 q2 c3 q3 c4 q4 c5 q5 c6 q6 c7 q7 c8 q8 c9 q9 c10 q10 g0 htx
          refine fix4_step (.slice (some ⟨w2.heap.size, 0, none⟩) 32 32) (by kernel_rfl) (by kernel_rfl) (fun J s _ _ hJ => ?_) ?_
          · go_simp
            exact hJ _ rfl
          intro J hJ
          go_simp
          refine hJ _ ?_
          clear hJ J
          refine fix4_mid (.string X) 0 1 (by kernel_rfl) (by kernel_rfl) (fun J s hs1 hs2 hJ => ?_) ?_
          · have hc := HCV.out (g s).1 _ (by
              rcases s with _ | _ | s
              · exact (bl0.block _ hz3).trans h3
              · exact (bl1.block _ hz3).trans h3
              · omega)
            go_simp
            exact hJ _ rfl
          intro J hJ
          go_simp
          refine hJ _ ?_
          clear hJ J
          refine fix4_step (.string t) (by kernel_rfl) (by kernel_rfl) (fun J s _ _ hJ => ?_) ?_
          · go_simp
            exact hJ _ rfl
          intro J hJ
          go_simp
          refine hJ _ ?_
          clear hJ J
          refine fix4_eff 0 (.string X) QQ0.out (by kernel_rfl) (by kernel_rfl) (fun J hJ => ?_) ?_
          · go_simp
            go_at_call 31
            refine (hRt _).mono ?_
            rintro e W1 ⟨rfl, g1⟩
            exact hJ _ _ ⟨g1, rfl⟩
          intro J hJ
          go_simp
          refine hJ _ ?_
          clear hJ J
          refine fix4_eff 1 (.bool true) QQ1.out (by kernel_rfl) (by kernel_rfl) (fun J hJ => ?_) ?_
          · go_simp
            exact hJ _ _ ⟨rfl, rfl⟩
          intro J hJ
          go_simp
          refine hJ _ ?_
          clear hJ J
          refine fix4_eff 2 (.bool true) QQ2.out (by kernel_rfl) (by kernel_rfl) (fun J hJ => ?_) ?_
          · go_simp
            exact hJ _ _ ⟨rfl, rfl⟩
          intro J hJ
          go_simp
          refine hJ _ ?_
          clear hJ J
          refine fix4_step (.string t) (by kernel_rfl) (by kernel_rfl) (fun J s _ _ hJ => ?_) ?_
          · go_simp
            exact hJ _ rfl
          intro J hJ
          go_simp
          refine hJ _ ?_
          clear hJ J
          refine fix4_eff 3 (.slice (some ⟨(g 3).1.heap.size, 0, none⟩) 1 1) QQ3.out (by kernel_rfl) (by kernel_rfl) (fun J hJ => ?_) ?_
          · go_simp
            exact hJ _ _ ⟨rfl, rfl⟩
          intro J hJ
          go_simp
          refine hJ _ ?_
          clear hJ J
          refine fix4_eff 4 (.agg DC) QQ4.out (by kernel_rfl) (by kernel_rfl) (fun J hJ => ?_) ?_
          · go_simp
            go_at_call 16
            refine h8.mono ?_
            rintro e W1 ⟨rfl, g1⟩
            exact hJ _ _ ⟨g1, rfl⟩
          intro J hJ
          go_simp
          refine hJ _ ?_
          clear hJ J
          refine fix4_mid (.agg DC) 3 5 (by kernel_rfl) (by kernel_rfl) (fun J s hs1 hs2 hJ => ?_) ?_
          · have hc : (g s).1.heap[w2.heap.size]? = some (.cells DC 31 (0, 0)) := by
              have : s = 3 ∨ s = 4 ∨ s = 5 := by omega
              rcases this with rfl | rfl | rfl
              · exact (bl3.block _ hz3).trans h3
              · exact (bl4.block _ hz3).trans h3
              · exact (bl5.block _ hz3).trans h3
            exact wp_load_row 31 (.tmp 7) rfl w2.heap.size (by kernel_rfl) 31 DC (0, 0) _ hc Tryd.underlying31 rfl hDi (hJ _ rfl)
          intro J hJ
          go_simp
          refine hJ _ ?_
          clear hJ J
          refine fix4_eff 5 (.bool true) QQ5.out (by kernel_rfl) (by kernel_rfl) (fun J hJ => ?_) ?_
          · go_simp
            exact hJ _ _ ⟨rfl, rfl⟩
          intro J hJ
          go_simp
          refine hJ _ ?_
          clear hJ J
          refine fix4_eff 6 (.bool true) QQ6.out (by kernel_rfl) (by kernel_rfl) (fun J hJ => ?_) ?_
          · go_simp
            exact hJ _ _ ⟨rfl, rfl⟩
          intro J hJ
          go_simp
          refine hJ _ ?_
          clear hJ J
          refine fix4_eff 7 (.bool true) QQ7.out (by kernel_rfl) (by kernel_rfl) (fun J hJ => ?_) ?_
          · go_simp
            exact hJ _ _ ⟨rfl, rfl⟩
          intro J hJ
          go_simp
          refine hJ _ ?_
          clear hJ J
          refine fix4_step (.slice PA pl PC) (by kernel_rfl) (by kernel_rfl) (fun J s _ _ hJ => ?_) ?_
          · go_simp
            exact hJ _ rfl
          intro J hJ
          go_simp
          refine hJ _ ?_
          clear hJ J
          refine fix4_eff 8 (.int .u32 (N : Int)) QQ8.out (by kernel_rfl) (by kernel_rfl) (fun J hJ => ?_) ?_
          · go_simp
            go_at_call 32
            refine h14.mono ?_
            rintro e W1 ⟨rfl, g1⟩
            exact hJ _ _ ⟨g1, rfl⟩
          intro J hJ
          go_simp
          refine hJ _ ?_
          clear hJ J
          refine fix4_step (.string t) (by kernel_rfl) (by kernel_rfl) (fun J s _ _ hJ => ?_) ?_
          · go_simp
            exact hJ _ rfl
          intro J hJ
          go_simp
          refine hJ _ ?_
          clear hJ J
          refine fix4_eff 9 (.slice (some ⟨(g 9).1.heap.size, 0, none⟩) 1 1) QQ9.out (by kernel_rfl) (by kernel_rfl) (fun J hJ => ?_) ?_
          · go_simp
            exact hJ _ _ ⟨rfl, rfl⟩
          intro J hJ
          go_simp
          refine hJ _ ?_
          clear hJ J
          refine fix4_eff 10 (.int .u32 (N : Int)) QQ10.out (by kernel_rfl) (by kernel_rfl) (fun J hJ => ?_) ?_
          · go_simp
            go_at_call 32
            refine h17.mono ?_
            rintro e W1 ⟨rfl, g1⟩
            exact hJ _ _ ⟨g1, rfl⟩
          intro J hJ
          go_simp
          refine hJ _ ?_
          clear hJ J
          refine fix4_one 11 (by kernel_rfl) (by kernel_rfl) (fun J hJ => ?_)
          go_simp
          refine hJ _ ?_
          clear hJ J
          refine fix4_step (.bool true) (by kernel_rfl) (by kernel_rfl) (fun J s _ _ hJ => ?_) ?_
          · go_simp
            exact hJ _ rfl
          intro J hJ
          go_simp
          refine hJ _ ?_
          clear hJ J
          refine fix4_one 11 (by kernel_rfl) (by kernel_rfl) (fun J hJ => ?_)
          go_simp
          refine hJ _ ?_
          clear hJ J
          refine fix4_nil ?_
          go_wp2
          go_ret
          exact ⟨rfl, hb4.trans (bl11.mono hb4.size)⟩
        · obtain rfl := List.mem_singleton.1 hE
          clear hE
          have c0 : Below (g 0).1.heap.size (g 0).1 (g 1).1 := (hC 0 (by decide)).1
          have q0 : (g 1).2 = .string X := (hC 0 (by decide)).2
          have c1 : (g 2).1 = (g 1).1 := (hC 1 (by decide)).1
          have q1 : (g 2).2 = .bool true := (hC 1 (by decide)).2
          have c2 : (g 3).1 = (g 2).1 := (hC 2 (by decide)).1
          have q2 : (g 3).2 = .bool true := (hC 2 (by decide)).2
          have c3 : (g 4).1 = (g 3).1.alloc (Text1 t) := (hC 3 (by decide)).1
          have q3 : (g 4).2 = .slice (some ⟨(g 3).1.heap.size, 0, none⟩) 1 1 := (hC 3 (by decide)).2
          have c4 : Below (g 4).1.heap.size (g 4).1 (g 5).1 := (hC 4 (by decide)).1
          have q4 : (g 5).2 = .agg DC := (hC 4 (by decide)).2
          have c5 : (g 6).1 = (g 5).1 := (hC 5 (by decide)).1
          have q5 : (g 6).2 = .bool true := (hC 5 (by decide)).2
          have c6 : (g 7).1 = (g 6).1 := (hC 6 (by decide)).1
          have q6 : (g 7).2 = .bool true := (hC 6 (by decide)).2
          have c7 : (g 8).1 = (g 7).1 := (hC 7 (by decide)).1
          have q7 : (g 8).2 = .bool true := (hC 7 (by decide)).2
          have c8 : (g 9).1 = (g 8).1.alloc (Text1 t) := (hC 8 (by decide)).1
          have q8 : (g 9).2 = .slice (some ⟨(g 8).1.heap.size, 0, none⟩) 1 1 := (hC 8 (by decide)).2
          have c9 : Below (g 9).1.heap.size (g 9).1 (g 10).1 := (hC 9 (by decide)).1
          have q9 : (g 10).2 = .int .u32 (N : Int) := (hC 9 (by decide)).2
          have c10 : Below (g 10).1.heap.size (g 10).1 (g 11).1 := (hC 10 (by decide)).1
          have q10 : (g 11).2 = .int .u32 (N : Int) := (hC 10 (by decide)).2
          clear hC
          have bl0 : Below w3.heap.size w3 (g 0).1 := by rw [g0]; exact (Below.refl _ _).drew
          have bl1 := bl0.trans (c0.mono bl0.size)
          have bl2 : Below w3.heap.size w3 (g 2).1 := by rw [c1]; exact bl1
          have bl3 : Below w3.heap.size w3 (g 3).1 := by rw [c2]; exact bl2
          have bl4 : Below w3.heap.size w3 (g 4).1 := by rw [c3]; exact bl3.alloc bl3.size _
          have bl5 := bl4.trans (c4.mono bl4.size)
          have bl6 : Below w3.heap.size w3 (g 6).1 := by rw [c5]; exact bl5
          have bl7 : Below w3.heap.size w3 (g 7).1 := by rw [c6]; exact bl6
          have bl8 : Below w3.heap.size w3 (g 8).1 := by rw [c7]; exact bl7
          have bl9 : Below w3.heap.size w3 (g 9).1 := by rw [c8]; exact bl8.alloc bl8.size _
          have bl10 := bl9.trans (c9.mono bl9.size)
          have bl11 := bl10.trans (c10.mono bl10.size)
          have LL4 := HL.out.below (hb4.trans (bl4.mono hb4.size)) (by have := HL.out.size; omega)
          have LL9 := HL.out.below (hb4.trans (bl9.mono hb4.size)) (by have := HL.out.size; omega)
          have LL10 := HL.out.below (hb4.trans (bl10.mono hb4.size)) (by have := HL.out.size; omega)
          have h8 := HD1.out (g 3).1 (HL.out.below (hb4.trans (bl3.mono hb4.size)) (by have := HL.out.size; omega))
          rw [← c3] at h8
          have h14 := HC1.out (g 9).1 (bl9) LL9
          have htx : TextsAt (g 10).1 (some ⟨(g 8).1.heap.size, 0, none⟩) 1 [t] := TextsAt.below (by have h := text_at (g 8).1 t; rw [show (g 8).1.alloc (.cells #[.string t] 9) = (g 9).1 from c8.symm] at h; exact h) c9
          have h17 := HC2.out (g 10).1 _ htx LL10
          have CC0 := Lib.hid c0
          have QQ0 := Lib.hid q0
          have CC1 := Lib.hid c1
          have QQ1 := Lib.hid q1
          have CC2 := Lib.hid c2
          have QQ2 := Lib.hid q2
          have CC3 := Lib.hid c3
          have QQ3 := Lib.hid q3
          have CC4 := Lib.hid c4
          have QQ4 := Lib.hid q4
          have CC5 := Lib.hid c5
          have QQ5 := Lib.hid q5
          have CC6 := Lib.hid c6
          have QQ6 := Lib.hid q6
          have CC7 := Lib.hid c7
          have QQ7 := Lib.hid q7
          have CC8 := Lib.hid c8
          have QQ8 := Lib.hid q8
          have CC9 := Lib.hid c9
          have QQ9 := Lib.hid q9
          have CC10 := Lib.hid c10
          have QQ10 := Lib.hid q10
          have G0 := Lib.hid g0
          clear c0 q0 c1 q1 c2 q2 c3 q3 c4 q4 c5 q5 c6 q6 c7 q7 c8 q8 c9 q9 c10 q10 g0 htx
          refine fix4_step (.slice (some ⟨w2.heap.size, 0, none⟩) 32 32) (by kernel_rfl) (by kernel_rfl) (fun J s _ _ hJ => ?_) ?_
          · go_simp
            exact hJ _ rfl
          intro J hJ
          go_simp
          refine hJ _ ?_
          clear hJ J
          refine fix4_mid (.string X) 0 1 (by kernel_rfl) (by kernel_rfl) (fun J s hs1 hs2 hJ => ?_) ?_
          · have hc := HCV.out (g s).1 _ (by
              rcases s with _ | _ | s
              · exact (bl0.block _ hz3).trans h3
              · exact (bl1.block _ hz3).trans h3
              · omega)
            go_simp
            exact hJ _ rfl
          intro J hJ
          go_simp
          refine hJ _ ?_
          clear hJ J
          refine fix4_step (.string t) (by kernel_rfl) (by kernel_rfl) (fun J s _ _ hJ => ?_) ?_
          · go_simp
            exact hJ _ rfl
          intro J hJ
          go_simp
          refine hJ _ ?_
          clear hJ J
          refine fix4_eff 0 (.string X) QQ0.out (by kernel_rfl) (by kernel_rfl) (fun J hJ => ?_) ?_
          · go_simp
            go_at_call 31
            refine (hRt _).mono ?_
            rintro e W1 ⟨rfl, g1⟩
            exact hJ _ _ ⟨g1, rfl⟩
          intro J hJ
          go_simp
          refine hJ _ ?_
          clear hJ J
          refine fix4_eff 1 (.bool true) QQ1.out (by kernel_rfl) (by kernel_rfl) (fun J hJ => ?_) ?_
          · go_simp
            exact hJ _ _ ⟨rfl, rfl⟩
          intro J hJ
          go_simp
          refine hJ _ ?_
          clear hJ J
          refine fix4_eff 2 (.bool true) QQ2.out (by kernel_rfl) (by kernel_rfl) (fun J hJ => ?_) ?_
          · go_simp
            exact hJ _ _ ⟨rfl, rfl⟩
          intro J hJ
          go_simp
          refine hJ _ ?_
          clear hJ J
          refine fix4_step (.string t) (by kernel_rfl) (by kernel_rfl) (fun J s _ _ hJ => ?_) ?_
          · go_simp
            exact hJ _ rfl
          intro J hJ
          go_simp
          refine hJ _ ?_
          clear hJ J
          refine fix4_eff 3 (.slice (some ⟨(g 3).1.heap.size, 0, none⟩) 1 1) QQ3.out (by kernel_rfl) (by kernel_rfl) (fun J hJ => ?_) ?_
          · go_simp
            exact hJ _ _ ⟨rfl, rfl⟩
          intro J hJ
          go_simp
          refine hJ _ ?_
          clear hJ J
          refine fix4_eff 4 (.agg DC) QQ4.out (by kernel_rfl) (by kernel_rfl) (fun J hJ => ?_) ?_
          · go_simp
            go_at_call 16
            refine h8.mono ?_
            rintro e W1 ⟨rfl, g1⟩
            exact hJ _ _ ⟨g1, rfl⟩
          intro J hJ
          go_simp
          refine hJ _ ?_
          clear hJ J
          refine fix4_mid (.agg DC) 3 5 (by kernel_rfl) (by kernel_rfl) (fun J s hs1 hs2 hJ => ?_) ?_
          · have hc : (g s).1.heap[w2.heap.size]? = some (.cells DC 31 (0, 0)) := by
              have : s = 3 ∨ s = 4 ∨ s = 5 := by omega
              rcases this with rfl | rfl | rfl
              · exact (bl3.block _ hz3).trans h3
              · exact (bl4.block _ hz3).trans h3
              · exact (bl5.block _ hz3).trans h3
            exact wp_load_row 31 (.tmp 7) rfl w2.heap.size (by kernel_rfl) 31 DC (0, 0) _ hc Tryd.underlying31 rfl hDi (hJ _ rfl)
          intro J hJ
          go_simp
          refine hJ _ ?_
          clear hJ J
          refine fix4_eff 5 (.bool true) QQ5.out (by kernel_rfl) (by kernel_rfl) (fun J hJ => ?_) ?_
          · go_simp
            exact hJ _ _ ⟨rfl, rfl⟩
          intro J hJ
          go_simp
          refine hJ _ ?_
          clear hJ J
          refine fix4_eff 6 (.bool true) QQ6.out (by kernel_rfl) (by kernel_rfl) (fun J hJ => ?_) ?_
          · go_simp
            exact hJ _ _ ⟨rfl, rfl⟩
          intro J hJ
          go_simp
          refine hJ _ ?_
          clear hJ J
          refine fix4_eff 7 (.bool true) QQ7.out (by kernel_rfl) (by kernel_rfl) (fun J hJ => ?_) ?_
          · go_simp
            exact hJ _ _ ⟨rfl, rfl⟩
          intro J hJ
          go_simp
          refine hJ _ ?_
          clear hJ J
          refine fix4_step (.slice PA pl PC) (by kernel_rfl) (by kernel_rfl) (fun J s _ _ hJ => ?_) ?_
          · go_simp
            exact hJ _ rfl
          intro J hJ
          go_simp
          refine hJ _ ?_
          clear hJ J
          refine fix4_eff 9 (.int .u32 (N : Int)) QQ9.out (by kernel_rfl) (by kernel_rfl) (fun J hJ => ?_) ?_
          · go_simp
            go_at_call 32
            refine h14.mono ?_
            rintro e W1 ⟨rfl, g1⟩
            exact hJ _ _ ⟨g1, rfl⟩
          intro J hJ
          go_simp
          refine hJ _ ?_
          clear hJ J
          refine fix4_step (.string t) (by kernel_rfl) (by kernel_rfl) (fun J s _ _ hJ => ?_) ?_
          · go_simp
            exact hJ _ rfl
          intro J hJ
          go_simp
          refine hJ _ ?_
          clear hJ J
          refine fix4_eff 8 (.slice (some ⟨(g 8).1.heap.size, 0, none⟩) 1 1) QQ8.out (by kernel_rfl) (by kernel_rfl) (fun J hJ => ?_) ?_
          · go_simp
            exact hJ _ _ ⟨rfl, rfl⟩
          intro J hJ
          go_simp
          refine hJ _ ?_
          clear hJ J
          refine fix4_eff 10 (.int .u32 (N : Int)) QQ10.out (by kernel_rfl) (by kernel_rfl) (fun J hJ => ?_) ?_
          · go_simp
            go_at_call 32
            refine h17.mono ?_
            rintro e W1 ⟨rfl, g1⟩
            exact hJ _ _ ⟨g1, rfl⟩
          intro J hJ
          go_simp
          refine hJ _ ?_
          clear hJ J
          refine fix4_one 11 (by kernel_rfl) (by kernel_rfl) (fun J hJ => ?_)
          go_simp
          refine hJ _ ?_
          clear hJ J
          refine fix4_step (.bool true) (by kernel_rfl) (by kernel_rfl) (fun J s _ _ hJ => ?_) ?_
          · go_simp
            exact hJ _ rfl
          intro J hJ
          go_simp
          refine hJ _ ?_
          clear hJ J
          refine fix4_one 11 (by kernel_rfl) (by kernel_rfl) (fun J hJ => ?_)
          go_simp
          refine hJ _ ?_
          clear hJ J
          refine fix4_nil ?_
          go_wp2
          go_ret
          exact ⟨rfl, hb4.trans (bl11.mono hb4.size)⟩)
end Go.Proofs.YtgdpbnmhhbnkgaaDoor.Cod
