/- DigestHex: the walk, by what each call means. -/
import Derived.Test.YtgdpbnmhhbnkgaaDoorWalkDigestIs
import Derived.Test.YtgdpbnmhhbnkgaaDoorDigMore
import Derived.Test.YtgdpbnmhhbnkgaaDoorRefBlk
import Derived.Deep.CutRange
namespace Go.Proofs.YtgdpbnmhhbnkgaaDoor.Cod
open Go.RowKit
def Text2 (a b : ByteArray) : Obj := .cells #[.string a, .string b] 9
def Text1 (a : ByteArray) : Obj := .cells #[.string a] 9
theorem text_at2 (w : World) (a b : ByteArray) : TextsAt (w.alloc (Text2 a b)) (some ⟨w.heap.size, 0, none⟩) 2 [a, b] := by
  refine ⟨by simp, fun _ => ⟨_, _, rfl, by simp, fun j x hx => ?_⟩⟩
  refine (cell_of_row _ _ _ _ _ _ (heap_alloc_new w _)).trans ?_
  rcases j with _ | _ | j
  · simp at hx; subst hx; rfl
  · simp at hx; subst hx; rfl
  · simp at hx
theorem C_dcheck1 (a : ByteArray) (hs : a.size ≤ 1000000) (w : World) (hL : Laid w) : Calls Tryd.prog 32 #[.slice (some ⟨w.heap.size, 0, none⟩) 1 1] (w.alloc (Text1 a)) fun e w' => e = .returned (.int .u32 (be4 (sha (bl a)) 0 : Nat)) ∧ Below (w.alloc (Text1 a)).heap.size (w.alloc (Text1 a)) w' := by
  have hb := (Below.refl w.heap.size w).alloc (Nat.le_refl _) (Text1 a)
  have e : allOf [a] = bl a := by simp [allOf]
  have := C_dcheck _ 1 [a] _ (text_at w a) (by simp) (by rw [e, bl_len]; omega) (hL.below hb (by have := hL.size; omega))
  rw [e] at this
  exact this
theorem C_dcheck2 (a b : ByteArray) (hs : a.size + b.size ≤ 1000000) (w : World) (hL : Laid w) : Calls Tryd.prog 32 #[.slice (some ⟨w.heap.size, 0, none⟩) 2 2] (w.alloc (Text2 a b)) fun e w' => e = .returned (.int .u32 (be4 (sha (bl a ++ bl b)) 0 : Nat)) ∧ Below (w.alloc (Text2 a b)).heap.size (w.alloc (Text2 a b)) w' := by
  have hb := (Below.refl w.heap.size w).alloc (Nat.le_refl _) (Text2 a b)
  have e : allOf [a, b] = bl a ++ bl b := by simp [allOf]
  have := C_dcheck _ 2 [a, b] _ (text_at2 w a b) (by simp) (by rw [e, List.length_append, bl_len, bl_len]; omega) (hL.below hb (by have := hL.size; omega))
  rw [e] at this
  exact this
def SpecHex (t a b : ByteArray) : Nat → World → World → Prop
  | 0, W, W' => Below W.heap.size W W'
  | 3, W, W' => Below W.heap.size W W'
  | 7, W, W' => W' = W.alloc (Text1 t)
  | 8, W, W' => Below W.heap.size W W'
  | 12, W, W' => W' = W.alloc (Text2 a b)
  | 13, W, W' => Below W.heap.size W W'
  | _, W, W' => W' = W
theorem specHex_tot (t a b : ByteArray) (k : Nat) (W : World) : ∃ W', SpecHex t a b k W W' := by
  rcases k with _ | _ | _ | _ | _ | _ | _ | _ | _ | _ | _ | _ | _ | _ | k
  · exact ⟨W, Below.refl _ _⟩
  · exact ⟨W, rfl⟩
  · exact ⟨W, rfl⟩
  · exact ⟨W, Below.refl _ _⟩
  · exact ⟨W, rfl⟩
  · exact ⟨W, rfl⟩
  · exact ⟨W, rfl⟩
  · exact ⟨_, rfl⟩
  · exact ⟨W, Below.refl _ _⟩
  · exact ⟨W, rfl⟩
  · exact ⟨W, rfl⟩
  · exact ⟨W, rfl⟩
  · exact ⟨_, rfl⟩
  · exact ⟨W, Below.refl _ _⟩
  · exact ⟨W, rfl⟩
def VHex (X Y : ByteArray) (N : Nat) : Nat → World → World → Value
  | 0, _, _ => .string X
  | 3, _, _ => .string Y
  | 7, W, _ => .slice (some ⟨W.heap.size, 0, none⟩) 1 1
  | 8, _, _ => .int .u32 (N : Int)
  | 12, W, _ => .slice (some ⟨W.heap.size, 0, none⟩) 2 2
  | 13, _, _ => .int .u32 (N : Int)
  | _, _, _ => .bool true
def HxRel (w : World) (l : List UInt8) (u i : Value) (wr : World) : Prop :=
  ∃ (k : Nat) (t : ByteArray), k ≤ 32 ∧ i = .int .i64 k ∧ u = .string t ∧ bl t = hexL (l.take k) ∧ Below w.heap.size w wr
def NbRel (w : World) (c : List UInt8) (n1 n2 : Nat) (u i : Value) (wr : World) : Prop :=
  ∃ (j : Nat) (t : ByteArray), j ≤ 2 ∧ i = .int .i64 j ∧ u = .string t ∧ bl t = c ++ ([nib n1, nib n2].take j) ∧ Below w.heap.size w wr
def SmRel (D : List UInt8) (w : World) (u i : Value) (wr : World) : Prop :=
  ∃ j : Nat, j ≤ 4 ∧ i = .int .i64 j ∧ u = .int .u32 (pbe D 0 j : Nat) ∧ wr = w
theorem nib_lo (n : Nat) (h : n < 10) : IntKind.u8.wrap (48 + (n : Int)) = ((nib n).toNat : Int) := by
  unfold nib
  rw [if_pos h, UInt8.toNat_ofNat', Nat.mod_eq_of_lt (by omega)]
  show (48 + (n : Int)) % 256 = _
  omega
theorem nib_hi (n : Nat) (h0 : 10 ≤ n) (h : n < 16) : IntKind.u8.wrap (IntKind.u8.wrap (97 + (n : Int)) - 10) = ((nib n).toNat : Int) := by
  unfold nib
  rw [if_neg (by omega), UInt8.toNat_ofNat', Nat.mod_eq_of_lt (by omega)]
  show ((97 + (n : Int)) % 256 - 10) % 256 = _
  omega
theorem sum_step (D : List UInt8) (j : Nat) (hj : j < 4) : IntKind.u32.wrap (IntKind.u32.wrap ((pbe D 0 j : Nat) * 256) + ((D.getD j 0).toNat : Int)) = (pbe D 0 (j + 1) : Nat) := by
  have h1 := (pbe_lt D 0 j (by omega)).2 (by omega)
  have h2 := (D.getD j 0).toNat_lt
  have h3 : pbe D 0 (j + 1) = pbe D 0 j * 256 + (D.getD j 0).toNat := by
    show pbe D 0 j * 256 + (D.getD (4 * 0 + j) 0).toNat = _
    rw [Nat.mul_zero, Nat.zero_add]
  rw [h3]
  show (((pbe D 0 j : Nat) * 256) % 4294967296 + ((D.getD j 0).toNat : Int)) % 4294967296 = _
  omega
theorem S_get {Z : ByteArray} {D : List UInt8} (e : S D = Z) (j : Nat) (h : j < Z.size) : Z[j] = D.getD j 0 := by
  subst e
  have h2 : j < D.length := by rw [S_size] at h; exact h
  rw [List.getD_eq_getElem?_getD, List.getElem?_eq_getElem h2]
  rfl
set_option maxHeartbeats 4000000 in
set_option maxRecDepth 100000 in
theorem W_DigestHex (s : ByteArray) (l : List UInt8) (hl : l.length = 32) (h0 : s.size ≤ 140737488351232) (w : World) (hL : Laid w) (hR : ∀ (s : ByteArray), s.size ≤ 300 → ∀ v, Calls Tryd.prog 31 #[.string s] v fun e w' => e = .returned (.string (S (sha (bl s)))) ∧ Below v.heap.size v w') :
    Calls Tryd.prog 7 #[.string s, idv l] w fun e w' => e = .returned (.bool true) ∧ Below w.heap.size w w' := by
  have hconv := conv1
  have zl : (Lib.byteCells l).toArray.size = 32 := by simp [Lib.byteCells, hl]
  have cl : ∀ (j : Nat) (x : UInt8), l[j]? = some x → (Lib.byteCells l).toArray[j]? = some (Value.int .u8 x.toNat) := fun j x h => byteCells_get h
  have hi : (Tryd.prog.info? 30).map (·.size) = some (Lib.byteCells l).toArray.size := by rw [zl]; kernel_rfl
  have hX := fun v => C_hex l hl v
  have hY := fun v => C_dshort l hl v
  unfold idv at hX hY ⊢
  generalize (Lib.byteCells l).toArray = L at zl cl hi hX hY
  have HCL := Lib.hid cl
  clear cl
  have hCut := fun v => C_cut s 100 (by omega) (by omega) h0 v
  obtain ⟨t, et⟩ : ∃ t, S ((bl s).take (100 : Int).toNat) = t := ⟨_, rfl⟩
  have ht2 : t.size ≤ 100 := by rw [← et, S_size, List.length_take]; exact Nat.min_le_left _ _
  rw [et] at hCut
  clear et
  obtain ⟨D, eD⟩ : ∃ D, sha (bl t) = D := ⟨_, rfl⟩
  have hD32 : D.length = 32 := by rw [← eD]; exact sha_len _
  have hRt := hR t (by omega)
  rw [eD] at hRt
  have hz := hL.size
  have ha0 := (Below.refl w.heap.size w).alloc (Nat.le_refl _) (.cells L 30)
  have hLa := hL.below ha0 (by omega)
  have hA := C_awd _ hLa
  have HL := Lib.hid hL
  have HA0 := Lib.hid ha0
  clear hL ha0 hLa hR
  go_enter Tryd.func7, Tryd.ntmps7
  go_upto_region 4 with (go_at_call 29; ((with_reducible refine hA.mono ?_); rintro e w1 ⟨rfl, f1⟩))
  have f2 : Below w.heap.size w w1 := HA0.out.trans (f1.mono HA0.out.size)
  have f3 : w1.heap[w.heap.size]? = some (.cells L 30 (0, 0)) := (f1.block _ (by simp)).trans (heap_alloc_new _ _)
  have hwz : w.heap.size < w1.heap.size := (Array.getElem?_eq_some_iff.1 f3).1
  have F3 := Lib.hid f3
  clear f1 f3
  go_wp2_with (refine wpList_load_row (by rfl) 30 (.tmp 3) (by rfl) w.heap.size (by rfl) 30 L (0, 0) _ F3.out Tryd.underlying30 rfl hi ?_)
  go_loopw [5, 16] (fun u i wr => HxRel w1 l u i wr) (fun _ i _ => 32 - (intOf i).toNat)
  case atStart => exact ⟨0, _, by omega, rfl, rfl, by simp [hexL, bl], Below.refl _ _⟩
  case round =>
    obtain ⟨k, tx, hk, rfl, rfl, htx, hb⟩ := hrel
    have htz : tx.size = 2 * k := by rw [bl_size htx, hexL_len, List.length_take]; omega
    have HTX := Lib.hid htx
    clear htx
    by_cases hlt : k < 32
    · obtain ⟨x, hx⟩ : ∃ x, l[k]? = some x := ⟨_, List.getElem?_eq_getElem (by omega)⟩
      have htk := hexL_take l k x hx
      have hix := fun W => run_index_arr (P := Tryd.prog) (w := W) 30 5 32 L k (.int .u8 x.toNat) (by kernel_rfl) (by kernel_rfl) (.inl (by kernel_rfl)) hlt (HCL.out _ _ hx)
      obtain ⟨n1, en1⟩ : ∃ n1, n1 = x.toNat / 16 := ⟨_, rfl⟩
      obtain ⟨n2, en2⟩ : ∃ n2, n2 = x.toNat % 16 := ⟨_, rfl⟩
      have hn1 : n1 < 16 := by have := x.toNat_lt; omega
      have hn2 : n2 < 16 := by omega
      have q1 : (x.toNat : Int).tdiv 16 = (n1 : Int) := by rw [Int.tdiv_eq_ediv_of_nonneg (by omega)]; omega
      have q2 : (x.toNat : Int).tmod 16 = (n2 : Int) := by rw [Int.tmod_eq_emod_of_nonneg (by omega)]; omega
      rw [← en1, ← en2] at htk
      have HTK := Lib.hid htk
      clear htk en1 en2
      have b0 : (0 : Int) ≤ (k : Int) := by omega
      have b1 : (k : Int) < 32 := by omega
      go_wp2
      have c1 : (wr.alloc (.cells #[.int .u8 (n1 : Int), .int .u8 (n2 : Int)] 5)).cell? ⟨wr.heap.size, 0, none⟩ = some (.int .u8 (n1 : Int)) := cell_of_row _ _ _ _ _ _ (heap_alloc_new _ _)
      have c2 : (wr.alloc (.cells #[.int .u8 (n1 : Int), .int .u8 (n2 : Int)] 5)).cell? ⟨wr.heap.size, 1, none⟩ = some (.int .u8 (n2 : Int)) := cell_of_row _ _ _ _ _ _ (heap_alloc_new _ _)
      have hbi := hb.alloc hb.size (.cells #[.int .u8 (n1 : Int), .int .u8 (n2 : Int)] 5)
      obtain ⟨wi, ewi⟩ : ∃ wi, wr.alloc (.cells #[.int .u8 (n1 : Int), .int .u8 (n2 : Int)] 5) = wi := ⟨_, rfl⟩
      obtain ⟨bi, ebi⟩ : ∃ bi, wr.heap.size = bi := ⟨_, rfl⟩
      have hbl : bi < wi.heap.size := by rw [← ewi, ← ebi]; simp
      rw [ewi, ebi] at c1 c2
      rw [ewi] at hbi ⊢
      rw [ebi]
      have C1 := Lib.hid c1
      have C2 := Lib.hid c2
      clear ewi ebi c1 c2
      go_loopw [5, 25] (fun u i wr => NbRel wi (hexL (l.take k)) n1 n2 u i wr) (fun _ i _ => 2 - (intOf i).toNat)
      case atStart => exact ⟨0, _, by omega, rfl, rfl, by rw [HTX.out]; simp, Below.refl _ _⟩
      case round =>
        obtain ⟨j, ty, hj, rfl, rfl, hty, hbj⟩ := hrel
        have htyz : ty.size ≤ 66 := by rw [bl_size hty, List.length_append, hexL_len, List.length_take, List.length_take]; simp; omega
        have HTY := Lib.hid hty
        clear hty
        rcases (by omega : j = 0 ∨ j = 1 ∨ j = 2) with rfl | rfl | rfl
        · have d1 : wr.cell? ⟨bi, 0, none⟩ = some (.int .u8 (n1 : Int)) := (hbj.cell (p := ⟨bi, 0, none⟩) hbl).trans C1.out
          by_cases hd : n1 < 10
          · have hd1 : (n1 : Int) < 10 := by omega
            have hw := nib_lo n1 hd
            have hd2 : (0 : Int) ≤ (n1 : Int) := by omega
            go_wp2
            refine ⟨⟨1, _, by omega, by go_num, rfl, ?_, hbj.alloc hbj.size _⟩, by simp [intOf]⟩
            rw [bl_append, HTY.out]
            simp [bl]
          · have hd1 : ¬ (n1 : Int) < 10 := by omega
            have hw := nib_hi n1 (by omega) hn1
            have hd2 : (0 : Int) ≤ (n1 : Int) := by omega
            go_wp2
            refine ⟨⟨1, _, by omega, by go_num, rfl, ?_, hbj.alloc hbj.size _⟩, by simp [intOf]⟩
            rw [bl_append, HTY.out]
            simp [bl]
            unfold nib
            rw [if_neg (by omega)]
            congr 1
            omega
        · have d1 : wr.cell? ⟨bi, 1, none⟩ = some (.int .u8 (n2 : Int)) := (hbj.cell (p := ⟨bi, 1, none⟩) hbl).trans C2.out
          by_cases hd : n2 < 10
          · have hd1 : (n2 : Int) < 10 := by omega
            have hw := nib_lo n2 hd
            have hd2 : (0 : Int) ≤ (n2 : Int) := by omega
            go_wp2
            refine ⟨⟨2, _, by omega, by go_num, rfl, ?_, hbj.alloc hbj.size _⟩, by simp [intOf]⟩
            rw [bl_append, HTY.out]
            simp [bl]
          · have hd1 : ¬ (n2 : Int) < 10 := by omega
            have hw := nib_hi n2 (by omega) hn2
            have hd2 : (0 : Int) ≤ (n2 : Int) := by omega
            go_wp2
            refine ⟨⟨2, _, by omega, by go_num, rfl, ?_, hbj.alloc hbj.size _⟩, by simp [intOf]⟩
            rw [bl_append, HTY.out]
            simp [bl]
            unfold nib
            rw [if_neg (by omega)]
            congr 1
            omega
        · go_wp2
          go_roundw
          case rel =>
            refine ⟨k + 1, ty, by omega, by go_num, rfl, ?_, hbi.trans (hbj.mono hbi.size)⟩
            rw [HTY.out, HTK.out]
            simp
          case measure => simp [intOf]; omega
    · obtain rfl : k = 32 := by omega
      have htx2 : tx = S (hexL l) := eq_S (by rw [HTX.out, List.take_of_length_le (by omega)])
      clear HTX
      subst htx2
      have hXs : (S (hexL l)).size = 64 := by rw [S_size, hexL_len, hl]
      have hYe : (S (hexL l)).extract 0 8 = S ((hexL l).take 8) := by
        apply eq_S
        rw [bl_take, bl_S]
      have hDs : (S D).size = 32 := by rw [S_size, hD32]
      obtain ⟨X, eX⟩ : ∃ X, S (hexL l) = X := ⟨_, rfl⟩
      obtain ⟨Y, eY⟩ : ∃ Y, S ((hexL l).take 8) = Y := ⟨_, rfl⟩
      obtain ⟨Z, eZ⟩ : ∃ Z, S D = Z := ⟨_, rfl⟩
      rw [eX, eY] at hYe
      rw [eX] at hX hXs
      rw [eY] at hY
      rw [eZ] at hRt hDs
      have hDg := fun (j : Nat) (h : j < Z.size) => S_get eZ j h
      rw [eX]
      have HYE := Lib.hid hYe
      have HDG := Lib.hid hDg
      clear hYe hDg htz eX eY eZ
      go_wp2_with (first
        | (go_at_call 30; ((with_reducible refine (hCut _).mono ?_); rintro e w2 ⟨rfl, rfl⟩))
        | (go_at_call 31; ((with_reducible refine (hRt _).mono ?_); rintro e w3 ⟨rfl, g3⟩)))
      have hB3 : Below w.heap.size w w3 := (f2.trans (hb.mono f2.size)).trans (g3.mono (by have := f2.size; have := hb.size; omega))
      have hrow : w3.heap[w.heap.size]? = some (.cells L 30 (0, 0)) := (g3.block _ (by have := hb.size; omega)).trans ((hb.block _ hwz).trans F3.out)
      have HROW := Lib.hid hrow
      have hwz3 : w.heap.size < w3.heap.size := (Array.getElem?_eq_some_iff.1 hrow).1
      clear hrow
      go_loopw [11, 50] (fun u i wr => SmRel D w3 u i wr) (fun _ i _ => 4 - (intOf i).toNat)
      case atStart => exact ⟨0, by omega, rfl, rfl, rfl⟩
      case round =>
        obtain ⟨j, hj, rfl, rfl, rfl⟩ := hrel
        by_cases hlt : j < 4
        · have hst := sum_step D j hlt
          have hgj := HDG.out j (by omega)
          rw [← hgj] at hst
          have HST := Lib.hid hst
          have b0 : (0 : Int) ≤ (j : Int) := by omega
          have b1 : (j : Int) < 4 := by omega
          have b2 : (j : Int) < (Z.size : Int) := by omega
          clear hst hgj
          go_wp2
          refine ⟨⟨j + 1, by omega, by go_num, ?_, rfl⟩, by simp [intOf]; omega⟩
          rw [← HST.out]
          have h1 := (Z[j]'(by omega)).toNat_lt
          generalize (Z[j]'(by omega)).toNat = z at h1
          congr 1
          show _ = (((pbe D 0 j : Nat) * 256) % 4294967296 + (z : Int)) % 4294967296
          omega
        · obtain rfl : j = 4 := by omega
          rw [pbe_be4]
          obtain ⟨h, eh⟩ : ∃ h, h = t.size / 2 := ⟨_, rfl⟩
          have qh : (t.size : Int).tdiv 2 = (h : Int) := by rw [Int.tdiv_eq_ediv_of_nonneg (by omega)]; omega
          have qw : IntKind.i64.wrap (h : Int) = (h : Int) := IntWalk.i64_in _ (by omega)
          have qh0 : (0 : Int) ≤ (h : Int) := by omega
          have qh1 : (h : Int) ≤ (t.size : Int) := by omega
          have hts : bl (t.extract 0 h) ++ bl (t.extract h t.size) = bl t := by rw [bl_take, bl_drop, List.take_append_drop]
          have hK1 := fun v (hv : Laid v) => C_dcheck1 t (by omega) v hv
          have hK2 := fun v (hv : Laid v) => C_dcheck2 (t.extract 0 h) (t.extract h t.size) (by simp; omega) v hv
          rw [eD] at hK1
          rw [hts, eD] at hK2
          obtain ⟨N, eN⟩ : ∃ N, be4 D 0 = N := ⟨_, rfl⟩
          rw [eN] at hK1 hK2 ⊢
          have HK1 := Lib.hid hK1
          have HK2 := Lib.hid hK2
          clear eN hK1 hK2 hts eh eD
          go_upto_region 23 with (fail)
          refine region_fix3 [1, 3, 4, 6, 9, 10, 11, 13, 14, 16, 17, 18, 29, 30] (VHex X Y N) (SpecHex t (t.extract 0 h) (t.extract h t.size)) (by kernel_rfl) (by kernel_rfl) (specHex_tot _ _ _) fun g g0 hC => ?_
          have c0 : Below (g 0).heap.size (g 0) (g 1) := hC 0 (by decide)
          have c1 : g 2 = g 1 := hC 1 (by decide)
          have c2 : g 3 = g 2 := hC 2 (by decide)
          have c3 : Below (g 3).heap.size (g 3) (g 4) := hC 3 (by decide)
          have c4 : g 5 = g 4 := hC 4 (by decide)
          have c5 : g 6 = g 5 := hC 5 (by decide)
          have c6 : g 7 = g 6 := hC 6 (by decide)
          have c7 : g 8 = (g 7).alloc (Text1 t) := hC 7 (by decide)
          have c8 : Below (g 8).heap.size (g 8) (g 9) := hC 8 (by decide)
          have c9 : g 10 = g 9 := hC 9 (by decide)
          have c10 : g 11 = g 10 := hC 10 (by decide)
          have c11 : g 12 = g 11 := hC 11 (by decide)
          have c12 : g 13 = (g 12).alloc (Text2 (t.extract 0 h) (t.extract h t.size)) := hC 12 (by decide)
          have c13 : Below (g 13).heap.size (g 13) (g 14) := hC 13 (by decide)
          clear hC
          have bl0 : Below wr.heap.size wr (g 0) := by rw [g0]; exact (Below.refl _ _).drew
          have bl1 := bl0.trans (c0.mono bl0.size)
          have bl2 : Below wr.heap.size wr (g 2) := by rw [c1]; exact bl1
          have bl3 : Below wr.heap.size wr (g 3) := by rw [c2]; exact bl2
          have bl4 := bl3.trans (c3.mono bl3.size)
          have bl5 : Below wr.heap.size wr (g 5) := by rw [c4]; exact bl4
          have bl6 : Below wr.heap.size wr (g 6) := by rw [c5]; exact bl5
          have bl7 : Below wr.heap.size wr (g 7) := by rw [c6]; exact bl6
          have bl8 : Below wr.heap.size wr (g 8) := by rw [c7]; exact bl7.alloc bl7.size _
          have bl9 := bl8.trans (c8.mono bl8.size)
          have bl10 : Below wr.heap.size wr (g 10) := by rw [c9]; exact bl9
          have bl11 : Below wr.heap.size wr (g 11) := by rw [c10]; exact bl10
          have bl12 : Below wr.heap.size wr (g 12) := by rw [c11]; exact bl11
          have bl13 : Below wr.heap.size wr (g 13) := by rw [c12]; exact bl12.alloc bl12.size _
          have bl14 := bl13.trans (c13.mono bl13.size)
          have L7 := HL.out.below (hB3.trans (bl7.mono hB3.size)) (by have := HL.out.size; omega)
          have L12 := HL.out.below (hB3.trans (bl12.mono hB3.size)) (by have := HL.out.size; omega)
          have hk1 := HK1.out _ L7
          have hk2 := HK2.out _ L12
          rw [← c7] at hk1
          rw [← c12] at hk2
          have CC0 := Lib.hid c0
          have CC1 := Lib.hid c1
          have CC2 := Lib.hid c2
          have CC3 := Lib.hid c3
          have CC4 := Lib.hid c4
          have CC5 := Lib.hid c5
          have CC6 := Lib.hid c6
          have CC7 := Lib.hid c7
          have CC8 := Lib.hid c8
          have CC9 := Lib.hid c9
          have CC10 := Lib.hid c10
          have CC11 := Lib.hid c11
          have CC12 := Lib.hid c12
          have CC13 := Lib.hid c13
          have G0 := Lib.hid g0
          clear c0 c1 c2 c3 c4 c5 c6 c7 c8 c9 c10 c11 c12 c13 g0
          refine fix3_mid (.agg L) 0 0 (by kernel_rfl) rfl (fun J s hs1 hs2 hJ => ?_) ?_
          · obtain rfl : s = 0 := by omega
            exact wp_load_row 30 (.tmp 3) rfl w.heap.size rfl 30 L (0, 0) _ (bl0.block _ hwz3 |>.trans HROW.out) Tryd.underlying30 rfl hi (hJ _ rfl)
          intro J hJ
          go_simp
          refine hJ _ ?_
          clear hJ J
          refine fix3_eff 0 (.string X) rfl (by kernel_rfl) rfl (fun J hJ => ?_) ?_
          · go_simp
            go_at_call 33
            refine (hX _).mono ?_
            rintro e W1 ⟨rfl, g1⟩
            exact hJ _ g1
          intro J hJ
          go_simp
          refine hJ _ ?_
          clear hJ J
          refine fix3_step (.string X) (by kernel_rfl) rfl (fun J s _ _ hJ => ?_) ?_
          · go_simp
            exact hJ _ rfl
          intro J hJ
          go_simp
          refine hJ _ ?_
          clear hJ J
          refine fix3_eff 1 (.bool true) rfl (by kernel_rfl) rfl (fun J hJ => ?_) ?_
          · go_simp
            exact hJ _ rfl
          intro J hJ
          go_simp
          refine hJ _ ?_
          clear hJ J
          refine fix3_eff 2 (.bool true) rfl (by kernel_rfl) rfl (fun J hJ => ?_) ?_
          · go_simp
            exact hJ _ rfl
          intro J hJ
          go_simp
          refine hJ _ ?_
          clear hJ J
          refine fix3_mid (.agg L) 3 3 (by kernel_rfl) rfl (fun J s hs1 hs2 hJ => ?_) ?_
          · obtain rfl : s = 3 := by omega
            exact wp_load_row 30 (.tmp 3) rfl w.heap.size rfl 30 L (0, 0) _ (bl3.block _ hwz3 |>.trans HROW.out) Tryd.underlying30 rfl hi (hJ _ rfl)
          intro J hJ
          go_simp
          refine hJ _ ?_
          clear hJ J
          refine fix3_eff 3 (.string Y) rfl (by kernel_rfl) rfl (fun J hJ => ?_) ?_
          · go_simp
            go_at_call 28
            refine (hY _).mono ?_
            rintro e W1 ⟨rfl, g1⟩
            exact hJ _ g1
          intro J hJ
          go_simp
          refine hJ _ ?_
          clear hJ J
          refine fix3_step (.string X) (by kernel_rfl) rfl (fun J s _ _ hJ => ?_) ?_
          · go_simp
            exact hJ _ rfl
          intro J hJ
          go_simp
          refine hJ _ ?_
          clear hJ J
          refine fix3_step (.string Y) (by kernel_rfl) rfl (fun J s _ _ hJ => ?_) ?_
          · have hy := HYE.out
            go_simp
            exact hJ _ rfl
          intro J hJ
          go_simp
          refine hJ _ ?_
          clear hJ J
          refine fix3_eff 4 (.bool true) rfl (by kernel_rfl) rfl (fun J hJ => ?_) ?_
          · go_simp
            exact hJ _ rfl
          intro J hJ
          go_simp
          refine hJ _ ?_
          clear hJ J
          refine fix3_eff 5 (.bool true) rfl (by kernel_rfl) rfl (fun J hJ => ?_) ?_
          · go_simp
            exact hJ _ rfl
          intro J hJ
          go_simp
          refine hJ _ ?_
          clear hJ J
          refine fix3_eff 6 (.bool true) rfl (by kernel_rfl) rfl (fun J hJ => ?_) ?_
          · go_simp
            exact hJ _ rfl
          intro J hJ
          go_simp
          refine hJ _ ?_
          clear hJ J
          refine fix3_step (.string t) (by kernel_rfl) rfl (fun J s _ _ hJ => ?_) ?_
          · go_simp
            exact hJ _ rfl
          intro J hJ
          go_simp
          refine hJ _ ?_
          clear hJ J
          refine fix3_eff 7 (.slice (some ⟨(g 7).heap.size, 0, none⟩) 1 1) rfl (by kernel_rfl) rfl (fun J hJ => ?_) ?_
          · go_simp
            exact hJ _ rfl
          intro J hJ
          go_simp
          refine hJ _ ?_
          clear hJ J
          refine fix3_eff 8 (.int .u32 (N : Int)) rfl (by kernel_rfl) rfl (fun J hJ => ?_) ?_
          · go_simp
            go_at_call 32
            refine hk1.mono ?_
            rintro e W1 ⟨rfl, g1⟩
            exact hJ _ g1
          intro J hJ
          go_simp
          refine hJ _ ?_
          clear hJ J
          refine fix3_step (.int .u32 (N : Int)) (by kernel_rfl) rfl (fun J s _ _ hJ => ?_) ?_
          · go_simp
            exact hJ _ rfl
          intro J hJ
          go_simp
          refine hJ _ ?_
          clear hJ J
          refine fix3_eff 9 (.bool true) rfl (by kernel_rfl) rfl (fun J hJ => ?_) ?_
          · go_simp
            exact hJ _ rfl
          intro J hJ
          go_simp
          refine hJ _ ?_
          clear hJ J
          refine fix3_eff 10 (.bool true) rfl (by kernel_rfl) rfl (fun J hJ => ?_) ?_
          · go_simp
            exact hJ _ rfl
          intro J hJ
          go_simp
          refine hJ _ ?_
          clear hJ J
          refine fix3_eff 11 (.bool true) rfl (by kernel_rfl) rfl (fun J hJ => ?_) ?_
          · go_simp
            exact hJ _ rfl
          intro J hJ
          go_simp
          refine hJ _ ?_
          clear hJ J
          iterate 10
            refine fix3_one 12 (by kernel_rfl) rfl (fun J hJ => ?_)
            go_simp
            refine hJ _ ?_
            clear hJ J
          refine fix3_eff 12 (.slice (some ⟨(g 12).heap.size, 0, none⟩) 2 2) rfl (by kernel_rfl) rfl (fun J hJ => ?_) ?_
          · go_simp
            exact hJ _ rfl
          intro J hJ
          go_simp
          refine hJ _ ?_
          clear hJ J
          refine fix3_eff 13 (.int .u32 (N : Int)) rfl (by kernel_rfl) rfl (fun J hJ => ?_) ?_
          · go_simp
            go_at_call 32
            refine hk2.mono ?_
            rintro e W1 ⟨rfl, g1⟩
            exact hJ _ g1
          intro J hJ
          go_simp
          refine hJ _ ?_
          clear hJ J
          refine fix3_step (.int .u32 (N : Int)) (by kernel_rfl) rfl (fun J s _ _ hJ => ?_) ?_
          · go_simp
            exact hJ _ rfl
          intro J hJ
          go_simp
          refine hJ _ ?_
          clear hJ J
          iterate 1
            refine fix3_one 14 (by kernel_rfl) rfl (fun J hJ => ?_)
            go_simp
            refine hJ _ ?_
            clear hJ J
          refine fix3_step (.bool true) (by kernel_rfl) rfl (fun J s _ _ hJ => ?_) ?_
          · go_simp
            exact hJ _ rfl
          intro J hJ
          go_simp
          refine hJ _ ?_
          clear hJ J
          iterate 1
            refine fix3_one 14 (by kernel_rfl) rfl (fun J hJ => ?_)
            go_simp
            refine hJ _ ?_
            clear hJ J
          refine fix3_nil ?_
          go_wp2
          go_ret
          exact ⟨rfl, hB3.trans (bl14.mono hB3.size)⟩
end Go.Proofs.YtgdpbnmhhbnkgaaDoor.Cod
