/- NatRules: the walk, by what each call means. No condition. -/
import Derived.Test.YtclmdidgioggdaaNatK
import Derived.Test.YtclmdidgioggdaaFix5
import Derived.Deep.CutRange
namespace Go.Proofs.Ytclmdidgioggdaa.Walk
open Go.RowKit Go.Proofs.YtclmdidgioggdaaW.PrintWords Go.Proofs.YtclmdidgioggdaaW.PrintLast Go.Proofs.Ytclmdidgioggdaa.Q Go.Proofs.Ytclmdidgioggdaa.Num Go.Proofs.Ytclmdidgioggdaa.Cod
theorem calls_some {P : Program} {f : FuncId} {args : Array Value} {w : World} {R : Ending → World → Prop} (h : Calls P f args w R) : ∃ e w', R e w' := by
  obtain ⟨e, w', _, h, _⟩ := h []
  exact ⟨e, w', h⟩
theorem _root_.Go.Proofs.Ytclmdidgioggdaa.Num.IsN.slice {w : World} {v : Value} {a : Nat} (h : IsN w v a) : ∃ A c, v = .slice A (N a).length c := by
  obtain ⟨A, c, hv, _⟩ := h.reads
  exact ⟨A, c, hv⟩
/-- a store into a cell that holds a slice's head leaves a number as it is -/
theorem _root_.Go.Proofs.Ytclmdidgioggdaa.Num.IsN.set {W : World} {x v : Value} {n p : Nat} {A0 : Option Addr} {n0 c0 : Nat} {t : TypeId} (h : IsN W x n) (hp : W.heap[p]? = some (.cells #[.slice A0 n0 c0] t (0, 0))) : IsN (W.setCell ⟨p, 0, none⟩ v) x n := by
  obtain ⟨A, c, hv, hl, hf⟩ := h
  refine ⟨A, c, hv, hl, fun W' hW' => ?_⟩
  obtain ⟨h1, h2, h3⟩ := hf W (fun _ _ _ => rfl)
  refine ⟨h1, h2, fun h0 => ?_⟩
  obtain ⟨ad, hA, hc⟩ := h3 h0
  refine ⟨ad, hA, fun j q hq => ?_⟩
  obtain ⟨cs, hs, hk, hcell⟩ := hc j q hq
  refine ⟨cs, hs, hk, fun i u hu => ?_⟩
  have hcu := hcell i u hu
  have hku : u = .int .u32 q := by
    have hk : cs = [.int .u32 q] := hk
    subst hk
    rcases i with _ | i
    · simpa using hu.symm
    · simp at hu
  have hlt := World.block_lt_of_cell? W _ hcu
  have hb : (ad.add (j * 1 + i)).block ≠ p := by
    intro e
    unfold World.cell? at hcu
    have hcu' : W.cell? (ad.add (j * 1 + i)) = some u := hcell i u hu
    unfold World.cell? at hcu'
    rw [e, hp] at hcu'
    simp only at hcu'
    split at hcu'
    · cases hcu'
    · subst hku
      rcases hoff : (ad.add (j * 1 + i)).off with _ | o <;> rw [hoff] at hcu' <;> simp at hcu'
  have e1 : W'.heap[(ad.add (j * 1 + i)).block]? = W.heap[(ad.add (j * 1 + i)).block]? := (hW' _ trivial (by have hlt' : (ad.add (j * 1 + i)).block < W.heap.size := hlt; simpa using hlt')).trans (Below.heap_setCell W _ v _ hb)
  show W'.cell? (ad.add (j * 1 + i)) = some u
  have hcu' : W.cell? (ad.add (j * 1 + i)) = some u := hcu
  unfold World.cell? at hcu' ⊢
  rw [e1]
  exact hcu'
def ptrOf (v : Value) : Option Nat := match v with
  | .pointer (some q) => some q.block
  | _ => none
def tupOf (v : Value) : Option Value := match v with
  | .tuple cs => (match (cs[0]? : Option Value) with
    | some (Value.agg ds) => (ds[0]? : Option Value)
    | _ => none)
  | _ => none
def hist (k : Nat) (g : Nat → World × Value) : List Value := (List.range k).map fun n => (g (n + 1)).2
theorem hist_cong {k : Nat} {g g' : Nat → World × Value} (h : ∀ n, n ≤ k → g n = g' n) : hist k g = hist k g' := by
  unfold hist
  refine List.map_congr_left fun n hn => ?_
  rw [h (n + 1) (by have := List.mem_range.1 hn; omega)]
/-- what the operations of the statement before the last do -/
def S7 (a b : Nat) (i k : Nat) (g : Nat → World × Value) (W' : World) (u : Value) : Prop := match i with
  | 2 => Below (g k).1.heap.size (g k).1 W' ∧ ((∃ W2 x, Below (g k).1.heap.size (g k).1 W2 ∧ IsK W2 x (a + b) (60 + 60 + 1)) → ∃ x, u = .agg #[x] ∧ IsK W' x (a + b) (60 + 60 + 1))
  | 4 => Below (g k).1.heap.size (g k).1 W' ∧ ((∃ W2 x, Below (g k).1.heap.size (g k).1 W2 ∧ IsK W2 x a (60 + 60 + 1)) → ∃ x, u = .tuple #[.agg #[x], .bool true] ∧ IsK W' x a (60 + 60 + 1))
  | 8 => W' = (g k).1.alloc (.cells #[.slice none 0 0] 31) ∧ u = .pointer (some ⟨(g k).1.heap.size, 0, none⟩)
  | 9 => ∀ p x, (hist k g).findSome? ptrOf = some p → (hist k g).findSome? tupOf = some x → W' = (g k).1.setCell ⟨p, 0, none⟩ x
  | _ => W' = (g k).1
theorem s7_cong (a b : Nat) (i k : Nat) (g g' : Nat → World × Value) (W : World) (u : Value) (h : ∀ n, n ≤ k → g n = g' n) (hs : S7 a b i k g W u) : S7 a b i k g' W u := by
  unfold S7 at hs ⊢
  rw [← h k (Nat.le_refl _), ← hist_cong h]
  exact hs
theorem s7_tot (a b : Nat) (i k : Nat) (g : Nat → World × Value) : ∃ W' u, S7 a b i k g W' u := by
  have hn : ∀ n, ∃ W' u, Below (g k).1.heap.size (g k).1 W' ∧ ((∃ W2 x, Below (g k).1.heap.size (g k).1 W2 ∧ IsK W2 x n (60 + 60 + 1)) → IsK W' u n (60 + 60 + 1)) := by
    intro n
    by_cases h : ∃ W2 x, Below (g k).1.heap.size (g k).1 W2 ∧ IsK W2 x n (60 + 60 + 1)
    · obtain ⟨W2, x, h1, h2⟩ := h
      exact ⟨W2, x, h1, fun _ => h2⟩
    · exact ⟨(g k).1, undef, Below.refl _ _, fun h' => absurd h' h⟩
  rcases (by omega : i = 2 ∨ i = 4 ∨ i = 8 ∨ i = 9 ∨ (i ≠ 2 ∧ i ≠ 4 ∧ i ≠ 8 ∧ i ≠ 9)) with rfl | rfl | rfl | rfl | ⟨h2, h4, h8, h9⟩
  · obtain ⟨W', u, h1, h2⟩ := hn (a + b)
    exact ⟨W', .agg #[u], h1, fun h => ⟨u, rfl, h2 h⟩⟩
  · obtain ⟨W', u, h1, h2⟩ := hn a
    exact ⟨W', .tuple #[.agg #[u], .bool true], h1, fun h => ⟨u, rfl, h2 h⟩⟩
  · exact ⟨_, _, rfl, rfl⟩
  · cases hp : (hist k g).findSome? ptrOf with
    | none => exact ⟨(g k).1, undef, fun p x h _ => by rw [hp] at h; cases h⟩
    | some p =>
      cases hx : (hist k g).findSome? tupOf with
      | none => exact ⟨(g k).1, undef, fun p x _ h => by rw [hx] at h; cases h⟩
      | some x => exact ⟨(g k).1.setCell ⟨p, 0, none⟩ x, undef, fun p' x' h h' => by rw [hp] at h; rw [hx] at h'; cases h; cases h'; rfl⟩
  · refine ⟨(g k).1, undef, ?_⟩
    unfold S7
    split <;> first | rfl | (exfalso; omega)
/-- what the operations of the law's last statement yield -/
def PN (a b c : Nat) (i : Nat) (W : World) (u : Value) : Prop := match i with
  | 3 => ∃ x, u = .agg #[x] ∧ IsK W x (a + b) (60 + 60 + 1)
  | 6 => ∃ x, u = .agg #[x] ∧ IsK W x (b + a) (60 + 60 + 1)
  | 12 => ∃ x, u = .agg #[x] ∧ IsK W x (a * b) (60 + 60)
  | 15 => ∃ x, u = .agg #[x] ∧ IsK W x (b * a) (60 + 60)
  | 22 => ∃ x, u = .agg #[x] ∧ IsK W x (a + b) (60 + 60 + 1)
  | 24 => ∃ x, u = .agg #[x] ∧ IsK W x ((a + b) + c) ((60 + 60 + 1) + 60 + 1)
  | 28 => ∃ x, u = .agg #[x] ∧ IsK W x (b + c) (60 + 60 + 1)
  | 29 => ∃ x, u = .agg #[x] ∧ IsK W x (a + (b + c)) (60 + (60 + 60 + 1) + 1)
  | 36 => ∃ x, u = .agg #[x] ∧ IsK W x (a * b) (60 + 60)
  | 38 => ∃ x, u = .agg #[x] ∧ IsK W x ((a * b) * c) ((60 + 60) + 60)
  | 42 => ∃ x, u = .agg #[x] ∧ IsK W x (b * c) (60 + 60)
  | 43 => ∃ x, u = .agg #[x] ∧ IsK W x (a * (b * c)) (60 + (60 + 60))
  | 51 => ∃ x, u = .agg #[x] ∧ IsK W x (b + c) (60 + 60 + 1)
  | 52 => ∃ x, u = .agg #[x] ∧ IsK W x (a * (b + c)) (60 + (60 + 60 + 1))
  | 55 => ∃ x, u = .agg #[x] ∧ IsK W x (a * b) (60 + 60)
  | 58 => ∃ x, u = .agg #[x] ∧ IsK W x (a * c) (60 + 60)
  | 59 => ∃ x, u = .agg #[x] ∧ IsK W x ((a * b) + (a * c)) ((60 + 60) + (60 + 60) + 1)
  | 74 => ∃ x, u = .agg #[x] ∧ IsK W x 1 1
  | 75 => ∃ x, u = .agg #[x] ∧ IsK W x (a * 1) (60 + 1)
  | 82 => ∃ x, u = .agg #[x] ∧ IsK W x (a * 0) (60 + 1)
  | _ => u = .bool true
def SN (a b c : Nat) (i : Nat) (W W' : World) (u : Value) : Prop := Below W.heap.size W W' ∧ ((∃ W2 u2, Below W.heap.size W W2 ∧ PN a b c i W2 u2) → PN a b c i W' u)
theorem sn_tot (a b c i : Nat) (W : World) : ∃ W' u, SN a b c i W W' u := by
  by_cases h : ∃ W2 u2, Below W.heap.size W W2 ∧ PN a b c i W2 u2
  · obtain ⟨W2, u2, h1, h2⟩ := h
    exact ⟨W2, u2, h1, fun _ => h2⟩
  · exact ⟨W, undef, Below.refl _ _, fun h' => absurd h' h⟩
theorem chain_below {g : Nat → World × Value} {n : Nat} (h : ∀ k, k < n → Below (g k).1.heap.size (g k).1 (g (k + 1)).1) : ∀ d i : Nat, i + d ≤ n → Below (g i).1.heap.size (g i).1 (g (i + d)).1
  | 0, i, _ => Below.refl _ _
  | d + 1, i, hd => by
    have h1 := chain_below h d i (by omega)
    exact h1.trans ((h (i + d) (by omega)).mono h1.size)

attribute [local irreducible] IsN
set_option maxHeartbeats 8000000 in
set_option maxRecDepth 100000 in
theorem NatRules (a0 a1 a2 : ByteArray) (w : World) (w0 : a0.size ≤ 140737488351232) (w1 : a1.size ≤ 140737488351232) (w2 : a2.size ≤ 140737488351232) :
    Calls Try.prog 14 #[.string a0, .string a1, .string a2] w fun e w' => e = .returned (.bool true) ∧ Below w.heap.size w w' := by
  obtain ⟨a, ha, Ca⟩ := C_lawof a0 (by omega) 60 (by omega)
  replace Ca := fun w => (show Calls Try.prog 20 #[.string a0, .int .i64 60] w _ from Ca w)
  obtain ⟨b, hb, Cb⟩ := C_lawof a1 (by omega) 60 (by omega)
  replace Cb := fun w => (show Calls Try.prog 20 #[.string a1, .int .i64 60] w _ from Cb w)
  obtain ⟨c, hc, Cc⟩ := C_lawof a2 (by omega) 60 (by omega)
  replace Cc := fun w => (show Calls Try.prog 20 #[.string a2, .int .i64 60] w _ from Cc w)
  have hu31 := Try.underlying31
  go_enter Try.func14, Try.ntmps14
  go_upto_region 7 with (first
    | (go_at_call 19; with_reducible refine (C_awake3 _).mono ?_; rintro e wA ⟨rfl, hA⟩)
    | (go_at_call 20; first
        | (with_reducible refine (Ca _).mono ?_; rintro e wa ⟨ua, ya, rfl, hxa, hwa⟩; obtain ⟨Aa, ka, rfl⟩ := hxa.slice)
        | (with_reducible refine (Cb _).mono ?_; rintro e wb ⟨ub, yb, rfl, hxb, hwb⟩; obtain ⟨Ab, kb, rfl⟩ := hxb.slice)
        | (with_reducible refine (Cc _).mono ?_; rintro e wc ⟨uc, yc, rfl, hxc, hwc⟩; obtain ⟨Ac, kc, rfl⟩ := hxc.slice)))
  generalize Value.slice Aa (N a).length ka = ua at hxa hwb ⊢
  generalize Value.slice Ab (N b).length kb = ub at hxb hwc ⊢
  generalize Value.slice Ac (N c).length kc = uc at hxc ⊢
  have hbA : Below w.heap.size w wa := hA.trans (hwa.mono hA.size)
  have hba := hbA.alloc hbA.size (.cells #[ua] 31)
  have hbb := hba.trans (hwb.mono hba.size)
  have hbb2 := hbb.alloc hbb.size (.cells #[ub] 31)
  have hbc := hbb2.trans (hwc.mono hbb2.size)
  have hbz := hbc.alloc hbc.size (.cells #[uc] 31)
  have Bc : Below (wb.alloc (.cells #[ub] 31)).heap.size (wb.alloc (.cells #[ub] 31)) (wc.alloc (.cells #[uc] 31)) := hwc.alloc hwc.size _
  have Bb : Below wb.heap.size wb (wc.alloc (.cells #[uc] 31)) := ((Below.refl _ _).alloc (Nat.le_refl _) _).trans (Bc.mono (by simp))
  have Ba : Below (wa.alloc (.cells #[ua] 31)).heap.size (wa.alloc (.cells #[ua] 31)) (wc.alloc (.cells #[uc] 31)) := hwb.trans (Bb.mono hwb.size)
  have na : IsK (wc.alloc (.cells #[uc] 31)) ua a 60 := ⟨(hxa.below ((Below.refl _ _).alloc (Nat.le_refl _) _)).below Ba, ha⟩
  have nb : IsK (wc.alloc (.cells #[uc] 31)) ub b 60 := ⟨hxb.below Bb, hb⟩
  have nc : IsK (wc.alloc (.cells #[uc] 31)) uc c 60 := ⟨hxc.below ((Below.refl _ _).alloc (Nat.le_refl _) _), hc⟩
  have ca : (wc.alloc (.cells #[uc] 31)).cell? ⟨wa.heap.size, 0, none⟩ = some ua := (Ba.cell (p := ⟨wa.heap.size, 0, none⟩) (by simp)).trans (by simp)
  have cb : (wc.alloc (.cells #[uc] 31)).cell? ⟨wb.heap.size, 0, none⟩ = some ub := (Bc.cell (p := ⟨wb.heap.size, 0, none⟩) (by simp)).trans (by simp)
  have cc : (wc.alloc (.cells #[uc] 31)).cell? ⟨wc.heap.size, 0, none⟩ = some uc := by simp
  have la : wa.heap.size < (wc.alloc (.cells #[uc] 31)).heap.size := by have := Ba.size; simp at this ⊢; omega
  have lb : wb.heap.size < (wc.alloc (.cells #[uc] 31)).heap.size := by have := Bc.size; simp at this ⊢; omega
  have lc : wc.heap.size < (wc.alloc (.cells #[uc] 31)).heap.size := by simp
  clear hA hwa hba hbb hbb2 hbc hbA Bc Bb Ba hxa hxb hxc hwb hwc
  obtain ⟨wz, ewz⟩ : ∃ wz, wc.alloc (.cells #[uc] 31) = wz := ⟨_, rfl⟩
  obtain ⟨pa, epa⟩ : ∃ p, wa.heap.size = p := ⟨_, rfl⟩
  obtain ⟨pb, epb⟩ : ∃ p, wb.heap.size = p := ⟨_, rfl⟩
  obtain ⟨pc, epc⟩ : ∃ p, wc.heap.size = p := ⟨_, rfl⟩
  rw [ewz] at hbz na nb nc ca cb cc la lb lc ⊢
  rw [epa] at ca la ⊢
  rw [epb] at cb lb ⊢
  rw [epc] at cc lc ⊢
  clear ewz epa epb epc Ca Cb Cc
  go_cut [14, 15] from 33 to 40 (fun p q wx => ∃ px ux, p = .pointer (some ⟨px, 0, none⟩) ∧ q = .bool true ∧ px < wx.heap.size ∧ wx.cell? ⟨px, 0, none⟩ = some ux ∧ IsK wx ux a (60 + 60 + 1) ∧ Below wz.heap.size wz wx)
  case first =>
    refine region_fix5 [[8, 2, 4, 9], [2, 8, 4, 9], [2, 4, 8, 9]] [8, 2, 4, 9] rfl (S7 a b) (by kernel_rfl) (by kernel_rfl) (s7_cong a b) (s7_tot a b) fun E hE g g0 hC => ?_
    rcases List.mem_cons.1 hE with rfl | hE
    · clear hE
      have w8 : (g 1).1 = (g 0).1.alloc (.cells #[.slice none 0 0] 31) := (hC 0 (by decide)).1
      have q8 : (g 1).2 = .pointer (some ⟨(g 0).1.heap.size, 0, none⟩) := (hC 0 (by decide)).2
      have e2 := (hC 1 (by decide)).1
      have e4 := (hC 2 (by decide)).1
      have bl0 : Below wz.heap.size wz (g 0).1 := by rw [g0]; exact (Below.refl _ _).drew
      have bl1 : Below wz.heap.size wz (g 1).1 := by rw [w8]; exact bl0.alloc bl0.size _
      have bl2 : Below wz.heap.size wz (g 2).1 := bl1.trans (Below.mono e2 bl1.size)
      have bl3 : Below wz.heap.size wz (g 3).1 := bl2.trans (Below.mono e4 bl2.size)
      have st0 : Below (g 0).1.heap.size (g 0).1 (g 1).1 := by rw [w8]; exact (Below.refl _ _).alloc (Nat.le_refl _) _
      have st1 : Below (g 1).1.heap.size (g 1).1 (g 2).1 := e2
      have st2 : Below (g 2).1.heap.size (g 2).1 (g 3).1 := e4
      obtain ⟨x2, q2, K2⟩ : ∃ x, (g 2).2 = .agg #[x] ∧ IsK (g 2).1 x (a + b) (60 + 60 + 1) := (hC 1 (by decide)).2 (by
        obtain ⟨_, W2, x, _, hx, hb⟩ := calls_some (K_add (na.below bl1) (nb.below bl1) (by omega) (by omega))
        exact ⟨W2, x, hb, hx⟩)
      have hs := K_sub K2 (nb.below bl2) (by omega) (by omega) (Nat.le_add_left _ _)
      rw [Nat.add_sub_cancel] at hs
      obtain ⟨x4, q4, K4⟩ : ∃ x, (g 3).2 = .tuple #[.agg #[x], .bool true] ∧ IsK (g 3).1 x a (60 + 60 + 1) := (hC 2 (by decide)).2 (by
        obtain ⟨_, W2, x, _, hx, hb⟩ := calls_some hs
        exact ⟨W2, x, hb, hx⟩)
      obtain ⟨A4, c4, hx4⟩ := K4.1.slice
      subst hx4
      have K43 := K4
      obtain ⟨p, ep⟩ : ∃ p, (g 0).1.heap.size = p := ⟨_, rfl⟩
      have r0 : (g 1).1.heap[p]? = some (.cells #[.slice none 0 0] 31 (0, 0)) := by rw [w8, ← ep]; exact heap_alloc_new _ _
      have lp0 : p < (g 1).1.heap.size := (Array.getElem?_eq_some_iff.1 r0).1
      have r3 : (g 3).1.heap[p]? = some (.cells #[.slice none 0 0] 31 (0, 0)) := ((st2.block _ (Nat.lt_of_lt_of_le lp0 st1.size)).trans ((st1.block _ lp0).trans r0))
      have bp : wz.heap.size ≤ p := by rw [← ep]; exact bl0.size
      rw [ep] at q8
      have hh : hist 3 g = [(g 1).2, (g 2).2, (g 3).2] := rfl
      have hp : (hist 3 g).findSome? ptrOf = some p := by rw [hh, q8, q2, q4]; rfl
      have hx : (hist 3 g).findSome? tupOf = some (.slice A4 (N a).length c4) := by rw [hh, q8, q2, q4]; rfl
      have w9 : (g 4).1 = (g 3).1.setCell ⟨p, 0, none⟩ (.slice A4 (N a).length c4) := (hC 3 (by decide)) p _ hp hx
      have c3 : (g 3).1.cell? ⟨p, 0, none⟩ = some (.slice none 0 0) := cell_of_row _ _ _ _ _ _ r3
      have f3 : (g 3).1.frozen? ⟨p, 0, none⟩ = false := frozen_of_row _ _ _ _ _ r3
      have b4 : Below wz.heap.size wz (g 4).1 := by rw [w9]; exact bl3.setCell (by simpa using bp) _
      have c4' : (g 4).1.cell? ⟨p, 0, none⟩ = some (.slice A4 (N a).length c4) := by rw [w9]; exact (cell_of_row _ _ _ _ _ _ (heap_setCell_same _ _ _ _ _ _ r3)).trans (by simp)
      have l4 : p < (g 4).1.heap.size := by rw [w9]; have := (Array.getElem?_eq_some_iff.1 r3).1; simpa using this
      have k4 : IsK (g 4).1 (.slice A4 (N a).length c4) a (60 + 60 + 1) := by rw [w9]; exact ⟨K43.1.set r3, K43.2⟩
      have hca : ∀ j : Nat, j ≤ 3 → (g j).1.cell? ⟨pa, 0, none⟩ = some ua := fun j hj => by
        rcases (by omega : j = 0 ∨ j = 1 ∨ j = 2 ∨ j = 3) with rfl | rfl | rfl | rfl
        · exact (bl0.cell (p := ⟨pa, 0, none⟩) la).trans ca
        · exact (bl1.cell (p := ⟨pa, 0, none⟩) la).trans ca
        · exact (bl2.cell (p := ⟨pa, 0, none⟩) la).trans ca
        · exact (bl3.cell (p := ⟨pa, 0, none⟩) la).trans ca
      have hcb : ∀ j : Nat, j ≤ 3 → (g j).1.cell? ⟨pb, 0, none⟩ = some ub := fun j hj => by
        rcases (by omega : j = 0 ∨ j = 1 ∨ j = 2 ∨ j = 3) with rfl | rfl | rfl | rfl
        · exact (bl0.cell (p := ⟨pb, 0, none⟩) lb).trans cb
        · exact (bl1.cell (p := ⟨pb, 0, none⟩) lb).trans cb
        · exact (bl2.cell (p := ⟨pb, 0, none⟩) lb).trans cb
        · exact (bl3.cell (p := ⟨pb, 0, none⟩) lb).trans cb
      have HC := Lib.hid hcb
      have HCA := Lib.hid hca
      have Q2 := Lib.hid q2
      have Q4 := Lib.hid q4
      have Q8 := Lib.hid q8
      have HP := Lib.hid hp
      have HX := Lib.hid hx
      have W8 := Lib.hid w8
      have W9 := Lib.hid w9
      have EP := Lib.hid ep
      have HS := Lib.hid hs
      have C3 := Lib.hid c3
      have F3 := Lib.hid f3
      have C4 := Lib.hid c4'
      have G0 := Lib.hid g0
      clear hcb hca q2 q4 q8 hp hx w8 w9 ep hs c3 f3 c4' g0 hh r0 r3 hC ca cb cc
      refine fix5_mid (.agg #[ua]) 0 3 (by kernel_rfl) (by kernel_rfl) (fun J s _ hs hJ => ?_) ?_
      · have hc := HCA.out s hs
        go_simp
        exact hJ _ rfl
      intro J hJ
      go_simp
      refine hJ _ ?_
      clear hJ J
      refine fix5_mid (.agg #[ub]) 0 3 (by kernel_rfl) (by kernel_rfl) (fun J s _ hs hJ => ?_) ?_
      · have hc := HC.out s hs
        go_simp
        exact hJ _ rfl
      intro J hJ
      go_simp
      refine hJ _ ?_
      clear hJ J
      refine fix5_eff 1 (.agg #[x2]) Q2.out (by kernel_rfl) (by kernel_rfl) (fun J hJ => ?_) ?_
      · go_simp
        go_at_call 23
        with_reducible refine (K_add (na.below bl1) (nb.below bl1) (by omega) (by omega)).mono ?_
        rintro e W1 ⟨x, rfl, hx, hb⟩
        exact hJ _ _ ⟨hb, fun _ => ⟨x, rfl, hx⟩⟩
      intro J hJ
      go_simp
      refine hJ _ ?_
      clear hJ J
      refine fix5_mid (.agg #[ub]) 0 3 (by kernel_rfl) (by kernel_rfl) (fun J s _ hs hJ => ?_) ?_
      · have hc := HC.out s hs
        go_simp
        exact hJ _ rfl
      intro J hJ
      go_simp
      refine hJ _ ?_
      clear hJ J
      refine fix5_eff 2 (.tuple #[.agg #[.slice A4 (N a).length c4], .bool true]) Q4.out (by kernel_rfl) (by kernel_rfl) (fun J hJ => ?_) ?_
      · go_simp
        go_at_call 42
        with_reducible refine (HS.out).mono ?_
        rintro e W1 ⟨x, rfl, hx, hb⟩
        exact hJ _ _ ⟨hb, fun _ => ⟨x, rfl, hx⟩⟩
      intro J hJ
      go_simp
      refine hJ _ ?_
      clear hJ J
      refine fix5_step (.tuple #[.agg #[.slice A4 (N a).length c4], .bool true]) (by kernel_rfl) (by kernel_rfl) (fun J s _ _ hJ => ?_) ?_
      · go_simp
        exact hJ _ rfl
      intro J hJ
      go_simp
      refine hJ _ ?_
      clear hJ J
      refine fix5_step (.agg #[.slice A4 (N a).length c4]) (by kernel_rfl) (by kernel_rfl) (fun J s _ _ hJ => ?_) ?_
      · go_simp
        exact hJ _ rfl
      intro J hJ
      go_simp
      refine hJ _ ?_
      clear hJ J
      refine fix5_step (.bool true) (by kernel_rfl) (by kernel_rfl) (fun J s _ _ hJ => ?_) ?_
      · go_simp
        exact hJ _ rfl
      intro J hJ
      go_simp
      refine hJ _ ?_
      clear hJ J
      refine fix5_eff 0 (.pointer (some ⟨p, 0, none⟩)) Q8.out (by kernel_rfl) (by kernel_rfl) (fun J hJ => ?_) ?_
      · go_simp
        exact hJ _ _ ⟨rfl, rfl⟩
      intro J hJ
      go_simp
      refine hJ _ ?_
      clear hJ J
      refine fix5_eff 3 _ rfl (by kernel_rfl) (by kernel_rfl) (fun J hJ => ?_) ?_
      · have c3 := C3.out
        have f3 := F3.out
        go_simp
        refine hJ _ undef (fun p' x' h1 h2 => ?_)
        rw [HP.out] at h1
        rw [HX.out] at h2
        cases h1
        cases h2
        rfl
      intro J hJ
      go_simp
      refine hJ _ ?_
      clear hJ J
      refine fix5_step (.bool true) (by kernel_rfl) (by kernel_rfl) (fun J s _ _ hJ => ?_) ?_
      · go_simp
        exact hJ _ rfl
      intro J hJ
      go_simp
      refine hJ _ ?_
      clear hJ J
      refine fix5_nil ?_
      go_wp2
      go_meet
      case rel => exact ⟨p, _, rfl, rfl, l4, C4.out, k4, b4⟩
    rcases List.mem_cons.1 hE with rfl | hE
    · clear hE
      have e2 := (hC 0 (by decide)).1
      have w8 : (g 2).1 = (g 1).1.alloc (.cells #[.slice none 0 0] 31) := (hC 1 (by decide)).1
      have q8 : (g 2).2 = .pointer (some ⟨(g 1).1.heap.size, 0, none⟩) := (hC 1 (by decide)).2
      have e4 := (hC 2 (by decide)).1
      have bl0 : Below wz.heap.size wz (g 0).1 := by rw [g0]; exact (Below.refl _ _).drew
      have bl1 : Below wz.heap.size wz (g 1).1 := bl0.trans (Below.mono e2 bl0.size)
      have bl2 : Below wz.heap.size wz (g 2).1 := by rw [w8]; exact bl1.alloc bl1.size _
      have bl3 : Below wz.heap.size wz (g 3).1 := bl2.trans (Below.mono e4 bl2.size)
      have st0 : Below (g 0).1.heap.size (g 0).1 (g 1).1 := e2
      have st1 : Below (g 1).1.heap.size (g 1).1 (g 2).1 := by rw [w8]; exact (Below.refl _ _).alloc (Nat.le_refl _) _
      have st2 : Below (g 2).1.heap.size (g 2).1 (g 3).1 := e4
      obtain ⟨x2, q2, K2⟩ : ∃ x, (g 1).2 = .agg #[x] ∧ IsK (g 1).1 x (a + b) (60 + 60 + 1) := (hC 0 (by decide)).2 (by
        obtain ⟨_, W2, x, _, hx, hb⟩ := calls_some (K_add (na.below bl0) (nb.below bl0) (by omega) (by omega))
        exact ⟨W2, x, hb, hx⟩)
      have hs := K_sub (K2.below st1) (nb.below bl2) (by omega) (by omega) (Nat.le_add_left _ _)
      rw [Nat.add_sub_cancel] at hs
      obtain ⟨x4, q4, K4⟩ : ∃ x, (g 3).2 = .tuple #[.agg #[x], .bool true] ∧ IsK (g 3).1 x a (60 + 60 + 1) := (hC 2 (by decide)).2 (by
        obtain ⟨_, W2, x, _, hx, hb⟩ := calls_some hs
        exact ⟨W2, x, hb, hx⟩)
      obtain ⟨A4, c4, hx4⟩ := K4.1.slice
      subst hx4
      have K43 := K4
      obtain ⟨p, ep⟩ : ∃ p, (g 1).1.heap.size = p := ⟨_, rfl⟩
      have r0 : (g 2).1.heap[p]? = some (.cells #[.slice none 0 0] 31 (0, 0)) := by rw [w8, ← ep]; exact heap_alloc_new _ _
      have lp0 : p < (g 2).1.heap.size := (Array.getElem?_eq_some_iff.1 r0).1
      have r3 : (g 3).1.heap[p]? = some (.cells #[.slice none 0 0] 31 (0, 0)) := ((st2.block _ lp0).trans r0)
      have bp : wz.heap.size ≤ p := by rw [← ep]; exact bl1.size
      rw [ep] at q8
      have hh : hist 3 g = [(g 1).2, (g 2).2, (g 3).2] := rfl
      have hp : (hist 3 g).findSome? ptrOf = some p := by rw [hh, q2, q8, q4]; rfl
      have hx : (hist 3 g).findSome? tupOf = some (.slice A4 (N a).length c4) := by rw [hh, q2, q8, q4]; rfl
      have w9 : (g 4).1 = (g 3).1.setCell ⟨p, 0, none⟩ (.slice A4 (N a).length c4) := (hC 3 (by decide)) p _ hp hx
      have c3 : (g 3).1.cell? ⟨p, 0, none⟩ = some (.slice none 0 0) := cell_of_row _ _ _ _ _ _ r3
      have f3 : (g 3).1.frozen? ⟨p, 0, none⟩ = false := frozen_of_row _ _ _ _ _ r3
      have b4 : Below wz.heap.size wz (g 4).1 := by rw [w9]; exact bl3.setCell (by simpa using bp) _
      have c4' : (g 4).1.cell? ⟨p, 0, none⟩ = some (.slice A4 (N a).length c4) := by rw [w9]; exact (cell_of_row _ _ _ _ _ _ (heap_setCell_same _ _ _ _ _ _ r3)).trans (by simp)
      have l4 : p < (g 4).1.heap.size := by rw [w9]; have := (Array.getElem?_eq_some_iff.1 r3).1; simpa using this
      have k4 : IsK (g 4).1 (.slice A4 (N a).length c4) a (60 + 60 + 1) := by rw [w9]; exact ⟨K43.1.set r3, K43.2⟩
      have hca : ∀ j : Nat, j ≤ 3 → (g j).1.cell? ⟨pa, 0, none⟩ = some ua := fun j hj => by
        rcases (by omega : j = 0 ∨ j = 1 ∨ j = 2 ∨ j = 3) with rfl | rfl | rfl | rfl
        · exact (bl0.cell (p := ⟨pa, 0, none⟩) la).trans ca
        · exact (bl1.cell (p := ⟨pa, 0, none⟩) la).trans ca
        · exact (bl2.cell (p := ⟨pa, 0, none⟩) la).trans ca
        · exact (bl3.cell (p := ⟨pa, 0, none⟩) la).trans ca
      have hcb : ∀ j : Nat, j ≤ 3 → (g j).1.cell? ⟨pb, 0, none⟩ = some ub := fun j hj => by
        rcases (by omega : j = 0 ∨ j = 1 ∨ j = 2 ∨ j = 3) with rfl | rfl | rfl | rfl
        · exact (bl0.cell (p := ⟨pb, 0, none⟩) lb).trans cb
        · exact (bl1.cell (p := ⟨pb, 0, none⟩) lb).trans cb
        · exact (bl2.cell (p := ⟨pb, 0, none⟩) lb).trans cb
        · exact (bl3.cell (p := ⟨pb, 0, none⟩) lb).trans cb
      have HC := Lib.hid hcb
      have HCA := Lib.hid hca
      have Q2 := Lib.hid q2
      have Q4 := Lib.hid q4
      have Q8 := Lib.hid q8
      have HP := Lib.hid hp
      have HX := Lib.hid hx
      have W8 := Lib.hid w8
      have W9 := Lib.hid w9
      have EP := Lib.hid ep
      have HS := Lib.hid hs
      have C3 := Lib.hid c3
      have F3 := Lib.hid f3
      have C4 := Lib.hid c4'
      have G0 := Lib.hid g0
      clear hcb hca q2 q4 q8 hp hx w8 w9 ep hs c3 f3 c4' g0 hh r0 r3 hC ca cb cc
      refine fix5_mid (.agg #[ua]) 0 3 (by kernel_rfl) (by kernel_rfl) (fun J s _ hs hJ => ?_) ?_
      · have hc := HCA.out s hs
        go_simp
        exact hJ _ rfl
      intro J hJ
      go_simp
      refine hJ _ ?_
      clear hJ J
      refine fix5_mid (.agg #[ub]) 0 3 (by kernel_rfl) (by kernel_rfl) (fun J s _ hs hJ => ?_) ?_
      · have hc := HC.out s hs
        go_simp
        exact hJ _ rfl
      intro J hJ
      go_simp
      refine hJ _ ?_
      clear hJ J
      refine fix5_eff 0 (.agg #[x2]) Q2.out (by kernel_rfl) (by kernel_rfl) (fun J hJ => ?_) ?_
      · go_simp
        go_at_call 23
        with_reducible refine (K_add (na.below bl0) (nb.below bl0) (by omega) (by omega)).mono ?_
        rintro e W1 ⟨x, rfl, hx, hb⟩
        exact hJ _ _ ⟨hb, fun _ => ⟨x, rfl, hx⟩⟩
      intro J hJ
      go_simp
      refine hJ _ ?_
      clear hJ J
      refine fix5_mid (.agg #[ub]) 0 3 (by kernel_rfl) (by kernel_rfl) (fun J s _ hs hJ => ?_) ?_
      · have hc := HC.out s hs
        go_simp
        exact hJ _ rfl
      intro J hJ
      go_simp
      refine hJ _ ?_
      clear hJ J
      refine fix5_eff 2 (.tuple #[.agg #[.slice A4 (N a).length c4], .bool true]) Q4.out (by kernel_rfl) (by kernel_rfl) (fun J hJ => ?_) ?_
      · go_simp
        go_at_call 42
        with_reducible refine (HS.out).mono ?_
        rintro e W1 ⟨x, rfl, hx, hb⟩
        exact hJ _ _ ⟨hb, fun _ => ⟨x, rfl, hx⟩⟩
      intro J hJ
      go_simp
      refine hJ _ ?_
      clear hJ J
      refine fix5_step (.tuple #[.agg #[.slice A4 (N a).length c4], .bool true]) (by kernel_rfl) (by kernel_rfl) (fun J s _ _ hJ => ?_) ?_
      · go_simp
        exact hJ _ rfl
      intro J hJ
      go_simp
      refine hJ _ ?_
      clear hJ J
      refine fix5_step (.agg #[.slice A4 (N a).length c4]) (by kernel_rfl) (by kernel_rfl) (fun J s _ _ hJ => ?_) ?_
      · go_simp
        exact hJ _ rfl
      intro J hJ
      go_simp
      refine hJ _ ?_
      clear hJ J
      refine fix5_step (.bool true) (by kernel_rfl) (by kernel_rfl) (fun J s _ _ hJ => ?_) ?_
      · go_simp
        exact hJ _ rfl
      intro J hJ
      go_simp
      refine hJ _ ?_
      clear hJ J
      refine fix5_eff 1 (.pointer (some ⟨p, 0, none⟩)) Q8.out (by kernel_rfl) (by kernel_rfl) (fun J hJ => ?_) ?_
      · go_simp
        exact hJ _ _ ⟨rfl, rfl⟩
      intro J hJ
      go_simp
      refine hJ _ ?_
      clear hJ J
      refine fix5_eff 3 _ rfl (by kernel_rfl) (by kernel_rfl) (fun J hJ => ?_) ?_
      · have c3 := C3.out
        have f3 := F3.out
        go_simp
        refine hJ _ undef (fun p' x' h1 h2 => ?_)
        rw [HP.out] at h1
        rw [HX.out] at h2
        cases h1
        cases h2
        rfl
      intro J hJ
      go_simp
      refine hJ _ ?_
      clear hJ J
      refine fix5_step (.bool true) (by kernel_rfl) (by kernel_rfl) (fun J s _ _ hJ => ?_) ?_
      · go_simp
        exact hJ _ rfl
      intro J hJ
      go_simp
      refine hJ _ ?_
      clear hJ J
      refine fix5_nil ?_
      go_wp2
      go_meet
      case rel => exact ⟨p, _, rfl, rfl, l4, C4.out, k4, b4⟩
    obtain rfl := List.mem_singleton.1 hE
    clear hE
    have e2 := (hC 0 (by decide)).1
    have e4 := (hC 1 (by decide)).1
    have w8 : (g 3).1 = (g 2).1.alloc (.cells #[.slice none 0 0] 31) := (hC 2 (by decide)).1
    have q8 : (g 3).2 = .pointer (some ⟨(g 2).1.heap.size, 0, none⟩) := (hC 2 (by decide)).2
    have bl0 : Below wz.heap.size wz (g 0).1 := by rw [g0]; exact (Below.refl _ _).drew
    have bl1 : Below wz.heap.size wz (g 1).1 := bl0.trans (Below.mono e2 bl0.size)
    have bl2 : Below wz.heap.size wz (g 2).1 := bl1.trans (Below.mono e4 bl1.size)
    have bl3 : Below wz.heap.size wz (g 3).1 := by rw [w8]; exact bl2.alloc bl2.size _
    have st0 : Below (g 0).1.heap.size (g 0).1 (g 1).1 := e2
    have st1 : Below (g 1).1.heap.size (g 1).1 (g 2).1 := e4
    have st2 : Below (g 2).1.heap.size (g 2).1 (g 3).1 := by rw [w8]; exact (Below.refl _ _).alloc (Nat.le_refl _) _
    obtain ⟨x2, q2, K2⟩ : ∃ x, (g 1).2 = .agg #[x] ∧ IsK (g 1).1 x (a + b) (60 + 60 + 1) := (hC 0 (by decide)).2 (by
      obtain ⟨_, W2, x, _, hx, hb⟩ := calls_some (K_add (na.below bl0) (nb.below bl0) (by omega) (by omega))
      exact ⟨W2, x, hb, hx⟩)
    have hs := K_sub K2 (nb.below bl1) (by omega) (by omega) (Nat.le_add_left _ _)
    rw [Nat.add_sub_cancel] at hs
    obtain ⟨x4, q4, K4⟩ : ∃ x, (g 2).2 = .tuple #[.agg #[x], .bool true] ∧ IsK (g 2).1 x a (60 + 60 + 1) := (hC 1 (by decide)).2 (by
      obtain ⟨_, W2, x, _, hx, hb⟩ := calls_some hs
      exact ⟨W2, x, hb, hx⟩)
    obtain ⟨A4, c4, hx4⟩ := K4.1.slice
    subst hx4
    have K43 := (K4.below st2)
    obtain ⟨p, ep⟩ : ∃ p, (g 2).1.heap.size = p := ⟨_, rfl⟩
    have r0 : (g 3).1.heap[p]? = some (.cells #[.slice none 0 0] 31 (0, 0)) := by rw [w8, ← ep]; exact heap_alloc_new _ _
    have lp0 : p < (g 3).1.heap.size := (Array.getElem?_eq_some_iff.1 r0).1
    have r3 : (g 3).1.heap[p]? = some (.cells #[.slice none 0 0] 31 (0, 0)) := r0
    have bp : wz.heap.size ≤ p := by rw [← ep]; exact bl2.size
    rw [ep] at q8
    have hh : hist 3 g = [(g 1).2, (g 2).2, (g 3).2] := rfl
    have hp : (hist 3 g).findSome? ptrOf = some p := by rw [hh, q2, q4, q8]; rfl
    have hx : (hist 3 g).findSome? tupOf = some (.slice A4 (N a).length c4) := by rw [hh, q2, q4, q8]; rfl
    have w9 : (g 4).1 = (g 3).1.setCell ⟨p, 0, none⟩ (.slice A4 (N a).length c4) := (hC 3 (by decide)) p _ hp hx
    have c3 : (g 3).1.cell? ⟨p, 0, none⟩ = some (.slice none 0 0) := cell_of_row _ _ _ _ _ _ r3
    have f3 : (g 3).1.frozen? ⟨p, 0, none⟩ = false := frozen_of_row _ _ _ _ _ r3
    have b4 : Below wz.heap.size wz (g 4).1 := by rw [w9]; exact bl3.setCell (by simpa using bp) _
    have c4' : (g 4).1.cell? ⟨p, 0, none⟩ = some (.slice A4 (N a).length c4) := by rw [w9]; exact (cell_of_row _ _ _ _ _ _ (heap_setCell_same _ _ _ _ _ _ r3)).trans (by simp)
    have l4 : p < (g 4).1.heap.size := by rw [w9]; have := (Array.getElem?_eq_some_iff.1 r3).1; simpa using this
    have k4 : IsK (g 4).1 (.slice A4 (N a).length c4) a (60 + 60 + 1) := by rw [w9]; exact ⟨K43.1.set r3, K43.2⟩
    have hca : ∀ j : Nat, j ≤ 3 → (g j).1.cell? ⟨pa, 0, none⟩ = some ua := fun j hj => by
      rcases (by omega : j = 0 ∨ j = 1 ∨ j = 2 ∨ j = 3) with rfl | rfl | rfl | rfl
      · exact (bl0.cell (p := ⟨pa, 0, none⟩) la).trans ca
      · exact (bl1.cell (p := ⟨pa, 0, none⟩) la).trans ca
      · exact (bl2.cell (p := ⟨pa, 0, none⟩) la).trans ca
      · exact (bl3.cell (p := ⟨pa, 0, none⟩) la).trans ca
    have hcb : ∀ j : Nat, j ≤ 3 → (g j).1.cell? ⟨pb, 0, none⟩ = some ub := fun j hj => by
      rcases (by omega : j = 0 ∨ j = 1 ∨ j = 2 ∨ j = 3) with rfl | rfl | rfl | rfl
      · exact (bl0.cell (p := ⟨pb, 0, none⟩) lb).trans cb
      · exact (bl1.cell (p := ⟨pb, 0, none⟩) lb).trans cb
      · exact (bl2.cell (p := ⟨pb, 0, none⟩) lb).trans cb
      · exact (bl3.cell (p := ⟨pb, 0, none⟩) lb).trans cb
    have HC := Lib.hid hcb
    have HCA := Lib.hid hca
    have Q2 := Lib.hid q2
    have Q4 := Lib.hid q4
    have Q8 := Lib.hid q8
    have HP := Lib.hid hp
    have HX := Lib.hid hx
    have W8 := Lib.hid w8
    have W9 := Lib.hid w9
    have EP := Lib.hid ep
    have HS := Lib.hid hs
    have C3 := Lib.hid c3
    have F3 := Lib.hid f3
    have C4 := Lib.hid c4'
    have G0 := Lib.hid g0
    clear hcb hca q2 q4 q8 hp hx w8 w9 ep hs c3 f3 c4' g0 hh r0 r3 hC ca cb cc
    refine fix5_mid (.agg #[ua]) 0 3 (by kernel_rfl) (by kernel_rfl) (fun J s _ hs hJ => ?_) ?_
    · have hc := HCA.out s hs
      go_simp
      exact hJ _ rfl
    intro J hJ
    go_simp
    refine hJ _ ?_
    clear hJ J
    refine fix5_mid (.agg #[ub]) 0 3 (by kernel_rfl) (by kernel_rfl) (fun J s _ hs hJ => ?_) ?_
    · have hc := HC.out s hs
      go_simp
      exact hJ _ rfl
    intro J hJ
    go_simp
    refine hJ _ ?_
    clear hJ J
    refine fix5_eff 0 (.agg #[x2]) Q2.out (by kernel_rfl) (by kernel_rfl) (fun J hJ => ?_) ?_
    · go_simp
      go_at_call 23
      with_reducible refine (K_add (na.below bl0) (nb.below bl0) (by omega) (by omega)).mono ?_
      rintro e W1 ⟨x, rfl, hx, hb⟩
      exact hJ _ _ ⟨hb, fun _ => ⟨x, rfl, hx⟩⟩
    intro J hJ
    go_simp
    refine hJ _ ?_
    clear hJ J
    refine fix5_mid (.agg #[ub]) 0 3 (by kernel_rfl) (by kernel_rfl) (fun J s _ hs hJ => ?_) ?_
    · have hc := HC.out s hs
      go_simp
      exact hJ _ rfl
    intro J hJ
    go_simp
    refine hJ _ ?_
    clear hJ J
    refine fix5_eff 1 (.tuple #[.agg #[.slice A4 (N a).length c4], .bool true]) Q4.out (by kernel_rfl) (by kernel_rfl) (fun J hJ => ?_) ?_
    · go_simp
      go_at_call 42
      with_reducible refine (HS.out).mono ?_
      rintro e W1 ⟨x, rfl, hx, hb⟩
      exact hJ _ _ ⟨hb, fun _ => ⟨x, rfl, hx⟩⟩
    intro J hJ
    go_simp
    refine hJ _ ?_
    clear hJ J
    refine fix5_step (.tuple #[.agg #[.slice A4 (N a).length c4], .bool true]) (by kernel_rfl) (by kernel_rfl) (fun J s _ _ hJ => ?_) ?_
    · go_simp
      exact hJ _ rfl
    intro J hJ
    go_simp
    refine hJ _ ?_
    clear hJ J
    refine fix5_step (.agg #[.slice A4 (N a).length c4]) (by kernel_rfl) (by kernel_rfl) (fun J s _ _ hJ => ?_) ?_
    · go_simp
      exact hJ _ rfl
    intro J hJ
    go_simp
    refine hJ _ ?_
    clear hJ J
    refine fix5_step (.bool true) (by kernel_rfl) (by kernel_rfl) (fun J s _ _ hJ => ?_) ?_
    · go_simp
      exact hJ _ rfl
    intro J hJ
    go_simp
    refine hJ _ ?_
    clear hJ J
    refine fix5_eff 2 (.pointer (some ⟨p, 0, none⟩)) Q8.out (by kernel_rfl) (by kernel_rfl) (fun J hJ => ?_) ?_
    · go_simp
      exact hJ _ _ ⟨rfl, rfl⟩
    intro J hJ
    go_simp
    refine hJ _ ?_
    clear hJ J
    refine fix5_eff 3 _ rfl (by kernel_rfl) (by kernel_rfl) (fun J hJ => ?_) ?_
    · have c3 := C3.out
      have f3 := F3.out
      go_simp
      refine hJ _ undef (fun p' x' h1 h2 => ?_)
      rw [HP.out] at h1
      rw [HX.out] at h2
      cases h1
      cases h2
      rfl
    intro J hJ
    go_simp
    refine hJ _ ?_
    clear hJ J
    refine fix5_step (.bool true) (by kernel_rfl) (by kernel_rfl) (fun J s _ _ hJ => ?_) ?_
    · go_simp
      exact hJ _ rfl
    intro J hJ
    go_simp
    refine hJ _ ?_
    clear hJ J
    refine fix5_nil ?_
    go_wp2
    go_meet
    case rel => exact ⟨p, _, rfl, rfl, l4, C4.out, k4, b4⟩
  case rest =>
    obtain ⟨px, ux, rfl, rfl, lx, cx, nx, bzx⟩ := hcut
    have hbx := hbz.trans (bzx.mono hbz.size)
    replace na := na.below bzx
    replace nb := nb.below bzx
    replace nc := nc.below bzx
    replace ca := (bzx.cell (p := ⟨pa, 0, none⟩) la).trans ca
    replace cb := (bzx.cell (p := ⟨pb, 0, none⟩) lb).trans cb
    replace cc := (bzx.cell (p := ⟨pc, 0, none⟩) lc).trans cc
    replace la : pa < wc.heap.size := Nat.lt_of_lt_of_le la bzx.size
    replace lb : pb < wc.heap.size := Nat.lt_of_lt_of_le lb bzx.size
    replace lc : pc < wc.heap.size := Nat.lt_of_lt_of_le lc bzx.size
    clear bzx hbz
    obtain ⟨wx, rfl⟩ : ∃ wx : World, wx = wc := ⟨_, rfl⟩
    go_wp2_with (fail)
    refine region_fix4 [[3, 6, 7, 8, 12, 15, 16, 18, 22, 24, 28, 29, 30, 32, 36, 38, 42, 43, 44, 46, 51, 52, 55, 58, 59, 60, 62, 65, 69, 71, 74, 75, 77, 79, 82, 83]] [3, 6, 7, 8, 12, 15, 16, 18, 22, 24, 28, 29, 30, 32, 36, 38, 42, 43, 44, 46, 51, 52, 55, 58, 59, 60, 62, 65, 69, 71, 74, 75, 77, 79, 82, 83] rfl (SN a b c) (by kernel_rfl) (by kernel_rfl) (sn_tot a b c) fun E hE g g0 hC => ?_
    obtain rfl := List.mem_singleton.1 hE
    clear hE
    have e0 : ∀ k, k < 36 → Below (g k).1.heap.size (g k).1 (g (k + 1)).1 := fun k hk => (hC k hk).1
    have bel : ∀ i j : Nat, i ≤ j → j ≤ 36 → Below (g i).1.heap.size (g i).1 (g j).1 := fun i j hij hj => by
      have := chain_below e0 (j - i) i (by omega)
      rwa [show i + (j - i) = j by omega] at this
    have b0 : Below wx.heap.size wx (g 0).1 := by rw [g0]; exact (Below.refl _ _).drew
    have bw : ∀ j : Nat, j ≤ 36 → Below wx.heap.size wx (g j).1 := fun j hj => b0.trans ((bel 0 j (by omega) hj).mono b0.size)
    have hca : ∀ j : Nat, j ≤ 36 → (g j).1.cell? ⟨pa, 0, none⟩ = some ua := fun j hj => ((bw j hj).cell (p := ⟨pa, 0, none⟩) la).trans ca
    have hNa : ∀ j : Nat, j ≤ 36 → IsK (g j).1 ua a 60 := fun j hj => na.below (bw j hj)
    have hcb : ∀ j : Nat, j ≤ 36 → (g j).1.cell? ⟨pb, 0, none⟩ = some ub := fun j hj => ((bw j hj).cell (p := ⟨pb, 0, none⟩) lb).trans cb
    have hNb : ∀ j : Nat, j ≤ 36 → IsK (g j).1 ub b 60 := fun j hj => nb.below (bw j hj)
    have hcc : ∀ j : Nat, j ≤ 36 → (g j).1.cell? ⟨pc, 0, none⟩ = some uc := fun j hj => ((bw j hj).cell (p := ⟨pc, 0, none⟩) lc).trans cc
    have hNc : ∀ j : Nat, j ≤ 36 → IsK (g j).1 uc c 60 := fun j hj => nc.below (bw j hj)
    have hcx : ∀ j : Nat, j ≤ 36 → (g j).1.cell? ⟨px, 0, none⟩ = some ux := fun j hj => ((bw j hj).cell (p := ⟨px, 0, none⟩) lx).trans cx
    have hNx : ∀ j : Nat, j ≤ 36 → IsK (g j).1 ux a (60 + 60 + 1) := fun j hj => nx.below (bw j hj)
    obtain ⟨x3, q3, K3⟩ : ∃ x, (g 1).2 = .agg #[x] ∧ IsK (g 1).1 x (a + b) (60 + 60 + 1) := (hC 0 (by decide)).2 (by
      obtain ⟨_, W2, x, _, hx, hb⟩ := calls_some (K_add (hNa 0 (by omega)) (hNb 0 (by omega)) (by omega) (by omega))
      exact ⟨W2, _, hb, x, rfl, hx⟩)
    obtain ⟨x6, q6, K6⟩ : ∃ x, (g 2).2 = .agg #[x] ∧ IsK (g 2).1 x (b + a) (60 + 60 + 1) := (hC 1 (by decide)).2 (by
      obtain ⟨_, W2, x, _, hx, hb⟩ := calls_some (K_add (hNb 1 (by omega)) (hNa 1 (by omega)) (by omega) (by omega))
      exact ⟨W2, _, hb, x, rfl, hx⟩)
    have q7 : (g 3).2 = .bool true := (hC 2 (by decide)).2 ⟨(g 2).1, _, Below.refl _ _, rfl⟩
    have q8 : (g 4).2 = .bool true := (hC 3 (by decide)).2 ⟨(g 3).1, _, Below.refl _ _, rfl⟩
    obtain ⟨x12, q12, K12⟩ : ∃ x, (g 5).2 = .agg #[x] ∧ IsK (g 5).1 x (a * b) (60 + 60) := (hC 4 (by decide)).2 (by
      obtain ⟨_, W2, x, _, hx, hb⟩ := calls_some (K_mul (hNa 4 (by omega)) (hNb 4 (by omega)) (by omega) (by omega))
      exact ⟨W2, _, hb, x, rfl, hx⟩)
    obtain ⟨x15, q15, K15⟩ : ∃ x, (g 6).2 = .agg #[x] ∧ IsK (g 6).1 x (b * a) (60 + 60) := (hC 5 (by decide)).2 (by
      obtain ⟨_, W2, x, _, hx, hb⟩ := calls_some (K_mul (hNb 5 (by omega)) (hNa 5 (by omega)) (by omega) (by omega))
      exact ⟨W2, _, hb, x, rfl, hx⟩)
    have q16 : (g 7).2 = .bool true := (hC 6 (by decide)).2 ⟨(g 6).1, _, Below.refl _ _, rfl⟩
    have q18 : (g 8).2 = .bool true := (hC 7 (by decide)).2 ⟨(g 7).1, _, Below.refl _ _, rfl⟩
    obtain ⟨x22, q22, K22⟩ : ∃ x, (g 9).2 = .agg #[x] ∧ IsK (g 9).1 x (a + b) (60 + 60 + 1) := (hC 8 (by decide)).2 (by
      obtain ⟨_, W2, x, _, hx, hb⟩ := calls_some (K_add (hNa 8 (by omega)) (hNb 8 (by omega)) (by omega) (by omega))
      exact ⟨W2, _, hb, x, rfl, hx⟩)
    obtain ⟨x24, q24, K24⟩ : ∃ x, (g 10).2 = .agg #[x] ∧ IsK (g 10).1 x ((a + b) + c) ((60 + 60 + 1) + 60 + 1) := (hC 9 (by decide)).2 (by
      obtain ⟨_, W2, x, _, hx, hb⟩ := calls_some (K_add (K22.below (bel 9 9 (by omega) (by omega))) (hNc 9 (by omega)) (by omega) (by omega))
      exact ⟨W2, _, hb, x, rfl, hx⟩)
    obtain ⟨x28, q28, K28⟩ : ∃ x, (g 11).2 = .agg #[x] ∧ IsK (g 11).1 x (b + c) (60 + 60 + 1) := (hC 10 (by decide)).2 (by
      obtain ⟨_, W2, x, _, hx, hb⟩ := calls_some (K_add (hNb 10 (by omega)) (hNc 10 (by omega)) (by omega) (by omega))
      exact ⟨W2, _, hb, x, rfl, hx⟩)
    obtain ⟨x29, q29, K29⟩ : ∃ x, (g 12).2 = .agg #[x] ∧ IsK (g 12).1 x (a + (b + c)) (60 + (60 + 60 + 1) + 1) := (hC 11 (by decide)).2 (by
      obtain ⟨_, W2, x, _, hx, hb⟩ := calls_some (K_add (hNa 11 (by omega)) (K28.below (bel 11 11 (by omega) (by omega))) (by omega) (by omega))
      exact ⟨W2, _, hb, x, rfl, hx⟩)
    have q30 : (g 13).2 = .bool true := (hC 12 (by decide)).2 ⟨(g 12).1, _, Below.refl _ _, rfl⟩
    have q32 : (g 14).2 = .bool true := (hC 13 (by decide)).2 ⟨(g 13).1, _, Below.refl _ _, rfl⟩
    obtain ⟨x36, q36, K36⟩ : ∃ x, (g 15).2 = .agg #[x] ∧ IsK (g 15).1 x (a * b) (60 + 60) := (hC 14 (by decide)).2 (by
      obtain ⟨_, W2, x, _, hx, hb⟩ := calls_some (K_mul (hNa 14 (by omega)) (hNb 14 (by omega)) (by omega) (by omega))
      exact ⟨W2, _, hb, x, rfl, hx⟩)
    obtain ⟨x38, q38, K38⟩ : ∃ x, (g 16).2 = .agg #[x] ∧ IsK (g 16).1 x ((a * b) * c) ((60 + 60) + 60) := (hC 15 (by decide)).2 (by
      obtain ⟨_, W2, x, _, hx, hb⟩ := calls_some (K_mul (K36.below (bel 15 15 (by omega) (by omega))) (hNc 15 (by omega)) (by omega) (by omega))
      exact ⟨W2, _, hb, x, rfl, hx⟩)
    obtain ⟨x42, q42, K42⟩ : ∃ x, (g 17).2 = .agg #[x] ∧ IsK (g 17).1 x (b * c) (60 + 60) := (hC 16 (by decide)).2 (by
      obtain ⟨_, W2, x, _, hx, hb⟩ := calls_some (K_mul (hNb 16 (by omega)) (hNc 16 (by omega)) (by omega) (by omega))
      exact ⟨W2, _, hb, x, rfl, hx⟩)
    obtain ⟨x43, q43, K43⟩ : ∃ x, (g 18).2 = .agg #[x] ∧ IsK (g 18).1 x (a * (b * c)) (60 + (60 + 60)) := (hC 17 (by decide)).2 (by
      obtain ⟨_, W2, x, _, hx, hb⟩ := calls_some (K_mul (hNa 17 (by omega)) (K42.below (bel 17 17 (by omega) (by omega))) (by omega) (by omega))
      exact ⟨W2, _, hb, x, rfl, hx⟩)
    have q44 : (g 19).2 = .bool true := (hC 18 (by decide)).2 ⟨(g 18).1, _, Below.refl _ _, rfl⟩
    have q46 : (g 20).2 = .bool true := (hC 19 (by decide)).2 ⟨(g 19).1, _, Below.refl _ _, rfl⟩
    obtain ⟨x51, q51, K51⟩ : ∃ x, (g 21).2 = .agg #[x] ∧ IsK (g 21).1 x (b + c) (60 + 60 + 1) := (hC 20 (by decide)).2 (by
      obtain ⟨_, W2, x, _, hx, hb⟩ := calls_some (K_add (hNb 20 (by omega)) (hNc 20 (by omega)) (by omega) (by omega))
      exact ⟨W2, _, hb, x, rfl, hx⟩)
    obtain ⟨x52, q52, K52⟩ : ∃ x, (g 22).2 = .agg #[x] ∧ IsK (g 22).1 x (a * (b + c)) (60 + (60 + 60 + 1)) := (hC 21 (by decide)).2 (by
      obtain ⟨_, W2, x, _, hx, hb⟩ := calls_some (K_mul (hNa 21 (by omega)) (K51.below (bel 21 21 (by omega) (by omega))) (by omega) (by omega))
      exact ⟨W2, _, hb, x, rfl, hx⟩)
    obtain ⟨x55, q55, K55⟩ : ∃ x, (g 23).2 = .agg #[x] ∧ IsK (g 23).1 x (a * b) (60 + 60) := (hC 22 (by decide)).2 (by
      obtain ⟨_, W2, x, _, hx, hb⟩ := calls_some (K_mul (hNa 22 (by omega)) (hNb 22 (by omega)) (by omega) (by omega))
      exact ⟨W2, _, hb, x, rfl, hx⟩)
    obtain ⟨x58, q58, K58⟩ : ∃ x, (g 24).2 = .agg #[x] ∧ IsK (g 24).1 x (a * c) (60 + 60) := (hC 23 (by decide)).2 (by
      obtain ⟨_, W2, x, _, hx, hb⟩ := calls_some (K_mul (hNa 23 (by omega)) (hNc 23 (by omega)) (by omega) (by omega))
      exact ⟨W2, _, hb, x, rfl, hx⟩)
    obtain ⟨x59, q59, K59⟩ : ∃ x, (g 25).2 = .agg #[x] ∧ IsK (g 25).1 x ((a * b) + (a * c)) ((60 + 60) + (60 + 60) + 1) := (hC 24 (by decide)).2 (by
      obtain ⟨_, W2, x, _, hx, hb⟩ := calls_some (K_add (K55.below (bel 23 24 (by omega) (by omega))) (K58.below (bel 24 24 (by omega) (by omega))) (by omega) (by omega))
      exact ⟨W2, _, hb, x, rfl, hx⟩)
    have q60 : (g 26).2 = .bool true := (hC 25 (by decide)).2 ⟨(g 25).1, _, Below.refl _ _, rfl⟩
    have q62 : (g 27).2 = .bool true := (hC 26 (by decide)).2 ⟨(g 26).1, _, Below.refl _ _, rfl⟩
    have q65 : (g 28).2 = .bool true := (hC 27 (by decide)).2 ⟨(g 27).1, _, Below.refl _ _, rfl⟩
    have q69 : (g 29).2 = .bool true := (hC 28 (by decide)).2 ⟨(g 28).1, _, Below.refl _ _, rfl⟩
    have q71 : (g 30).2 = .bool true := (hC 29 (by decide)).2 ⟨(g 29).1, _, Below.refl _ _, rfl⟩
    obtain ⟨x74, q74, K74⟩ : ∃ x, (g 31).2 = .agg #[x] ∧ IsK (g 31).1 x 1 1 := (hC 30 (by decide)).2 (by
      obtain ⟨_, W2, x, _, hx, hb⟩ := calls_some (K_one _)
      exact ⟨W2, _, hb, x, rfl, hx⟩)
    obtain ⟨x75, q75, K75⟩ : ∃ x, (g 32).2 = .agg #[x] ∧ IsK (g 32).1 x (a * 1) (60 + 1) := (hC 31 (by decide)).2 (by
      obtain ⟨_, W2, x, _, hx, hb⟩ := calls_some (K_mul (hNa 31 (by omega)) (K74.below (bel 31 31 (by omega) (by omega))) (by omega) (by omega))
      exact ⟨W2, _, hb, x, rfl, hx⟩)
    have q77 : (g 33).2 = .bool true := (hC 32 (by decide)).2 ⟨(g 32).1, _, Below.refl _ _, rfl⟩
    have q79 : (g 34).2 = .bool true := (hC 33 (by decide)).2 ⟨(g 33).1, _, Below.refl _ _, rfl⟩
    obtain ⟨x82, q82, K82⟩ : ∃ x, (g 35).2 = .agg #[x] ∧ IsK (g 35).1 x (a * 0) (60 + 1) := (hC 34 (by decide)).2 (by
      obtain ⟨_, W2, x, _, hx, hb⟩ := calls_some (K_mul (hNa 34 (by omega)) (K_nil _) (by omega) (by omega))
      exact ⟨W2, _, hb, x, rfl, hx⟩)
    have q83 : (g 36).2 = .bool true := (hC 35 (by decide)).2 ⟨(g 35).1, _, Below.refl _ _, rfl⟩
    have Q3 := Lib.hid q3
    have Q6 := Lib.hid q6
    have Q7 := Lib.hid q7
    have Q8 := Lib.hid q8
    have Q12 := Lib.hid q12
    have Q15 := Lib.hid q15
    have Q16 := Lib.hid q16
    have Q18 := Lib.hid q18
    have Q22 := Lib.hid q22
    have Q24 := Lib.hid q24
    have Q28 := Lib.hid q28
    have Q29 := Lib.hid q29
    have Q30 := Lib.hid q30
    have Q32 := Lib.hid q32
    have Q36 := Lib.hid q36
    have Q38 := Lib.hid q38
    have Q42 := Lib.hid q42
    have Q43 := Lib.hid q43
    have Q44 := Lib.hid q44
    have Q46 := Lib.hid q46
    have Q51 := Lib.hid q51
    have Q52 := Lib.hid q52
    have Q55 := Lib.hid q55
    have Q58 := Lib.hid q58
    have Q59 := Lib.hid q59
    have Q60 := Lib.hid q60
    have Q62 := Lib.hid q62
    have Q65 := Lib.hid q65
    have Q69 := Lib.hid q69
    have Q71 := Lib.hid q71
    have Q74 := Lib.hid q74
    have Q75 := Lib.hid q75
    have Q77 := Lib.hid q77
    have Q79 := Lib.hid q79
    have Q82 := Lib.hid q82
    have Q83 := Lib.hid q83
    have G0 := Lib.hid g0
    clear q3 q6 q7 q8 q12 q15 q16 q18 q22 q24 q28 q29 q30 q32 q36 q38 q42 q43 q44 q46 q51 q52 q55 q58 q59 q60 q62 q65 q69 q71 q74 q75 q77 q79 q82 q83 g0 hC e0
    refine fix4_step (.func (.func 49) #[] #[]) (by kernel_rfl) (by kernel_rfl) (fun J s _ _ hJ => ?_) ?_
    · go_simp
      exact hJ _ rfl
    intro J hJ
    go_simp
    refine hJ _ ?_
    clear hJ J
    refine fix4_mid (.agg #[ua]) 0 36 (by kernel_rfl) (by kernel_rfl) (fun J s _ hs hJ => ?_) ?_
    · have hc := hca s hs
      go_simp
      exact hJ _ rfl
    intro J hJ
    go_simp
    refine hJ _ ?_
    clear hJ J
    refine fix4_mid (.agg #[ub]) 0 36 (by kernel_rfl) (by kernel_rfl) (fun J s _ hs hJ => ?_) ?_
    · have hc := hcb s hs
      go_simp
      exact hJ _ rfl
    intro J hJ
    go_simp
    refine hJ _ ?_
    clear hJ J
    refine fix4_eff 0 (.agg #[x3]) Q3.out (by kernel_rfl) (by kernel_rfl) (fun J hJ => ?_) ?_
    · go_simp
      go_at_call 23
      with_reducible refine (K_add (hNa 0 (by omega)) (hNb 0 (by omega)) (by omega) (by omega)).mono ?_
      rintro e W1 ⟨x, rfl, hx, hb⟩
      exact hJ _ _ ⟨hb, fun _ => ⟨x, rfl, hx⟩⟩
    intro J hJ
    go_simp
    refine hJ _ ?_
    clear hJ J
    refine fix4_mid (.agg #[ub]) 0 36 (by kernel_rfl) (by kernel_rfl) (fun J s _ hs hJ => ?_) ?_
    · have hc := hcb s hs
      go_simp
      exact hJ _ rfl
    intro J hJ
    go_simp
    refine hJ _ ?_
    clear hJ J
    refine fix4_mid (.agg #[ua]) 0 36 (by kernel_rfl) (by kernel_rfl) (fun J s _ hs hJ => ?_) ?_
    · have hc := hca s hs
      go_simp
      exact hJ _ rfl
    intro J hJ
    go_simp
    refine hJ _ ?_
    clear hJ J
    refine fix4_eff 1 (.agg #[x6]) Q6.out (by kernel_rfl) (by kernel_rfl) (fun J hJ => ?_) ?_
    · go_simp
      go_at_call 23
      with_reducible refine (K_add (hNb 1 (by omega)) (hNa 1 (by omega)) (by omega) (by omega)).mono ?_
      rintro e W1 ⟨x, rfl, hx, hb⟩
      exact hJ _ _ ⟨hb, fun _ => ⟨x, rfl, hx⟩⟩
    intro J hJ
    go_simp
    refine hJ _ ?_
    clear hJ J
    refine fix4_eff 2 (.bool true) Q7.out (by kernel_rfl) (by kernel_rfl) (fun J hJ => ?_) ?_
    · go_simp
      go_at_call 49
      with_reducible refine (K_same (K3.below (bel 1 2 (by omega) (by omega))) (K6.below (bel 2 2 (by omega) (by omega))) (by omega) (Nat.add_comm _ _)).mono ?_
      rintro e W1 ⟨rfl, hb⟩
      exact hJ _ _ ⟨hb, fun _ => rfl⟩
    intro J hJ
    go_simp
    refine hJ _ ?_
    clear hJ J
    refine fix4_eff 3 (.bool true) Q8.out (by kernel_rfl) (by kernel_rfl) (fun J hJ => ?_) ?_
    · go_simp
      exact hJ _ _ ⟨Below.refl _ _, fun _ => rfl⟩
    intro J hJ
    go_simp
    refine hJ _ ?_
    clear hJ J
    refine fix4_step (.func (.func 49) #[] #[]) (by kernel_rfl) (by kernel_rfl) (fun J s _ _ hJ => ?_) ?_
    · go_simp
      exact hJ _ rfl
    intro J hJ
    go_simp
    refine hJ _ ?_
    clear hJ J
    refine fix4_mid (.agg #[ua]) 0 36 (by kernel_rfl) (by kernel_rfl) (fun J s _ hs hJ => ?_) ?_
    · have hc := hca s hs
      go_simp
      exact hJ _ rfl
    intro J hJ
    go_simp
    refine hJ _ ?_
    clear hJ J
    refine fix4_mid (.agg #[ub]) 0 36 (by kernel_rfl) (by kernel_rfl) (fun J s _ hs hJ => ?_) ?_
    · have hc := hcb s hs
      go_simp
      exact hJ _ rfl
    intro J hJ
    go_simp
    refine hJ _ ?_
    clear hJ J
    refine fix4_eff 4 (.agg #[x12]) Q12.out (by kernel_rfl) (by kernel_rfl) (fun J hJ => ?_) ?_
    · go_simp
      go_at_call 21
      with_reducible refine (K_mul (hNa 4 (by omega)) (hNb 4 (by omega)) (by omega) (by omega)).mono ?_
      rintro e W1 ⟨x, rfl, hx, hb⟩
      exact hJ _ _ ⟨hb, fun _ => ⟨x, rfl, hx⟩⟩
    intro J hJ
    go_simp
    refine hJ _ ?_
    clear hJ J
    refine fix4_mid (.agg #[ub]) 0 36 (by kernel_rfl) (by kernel_rfl) (fun J s _ hs hJ => ?_) ?_
    · have hc := hcb s hs
      go_simp
      exact hJ _ rfl
    intro J hJ
    go_simp
    refine hJ _ ?_
    clear hJ J
    refine fix4_mid (.agg #[ua]) 0 36 (by kernel_rfl) (by kernel_rfl) (fun J s _ hs hJ => ?_) ?_
    · have hc := hca s hs
      go_simp
      exact hJ _ rfl
    intro J hJ
    go_simp
    refine hJ _ ?_
    clear hJ J
    refine fix4_eff 5 (.agg #[x15]) Q15.out (by kernel_rfl) (by kernel_rfl) (fun J hJ => ?_) ?_
    · go_simp
      go_at_call 21
      with_reducible refine (K_mul (hNb 5 (by omega)) (hNa 5 (by omega)) (by omega) (by omega)).mono ?_
      rintro e W1 ⟨x, rfl, hx, hb⟩
      exact hJ _ _ ⟨hb, fun _ => ⟨x, rfl, hx⟩⟩
    intro J hJ
    go_simp
    refine hJ _ ?_
    clear hJ J
    refine fix4_eff 6 (.bool true) Q16.out (by kernel_rfl) (by kernel_rfl) (fun J hJ => ?_) ?_
    · go_simp
      go_at_call 49
      with_reducible refine (K_same (K12.below (bel 5 6 (by omega) (by omega))) (K15.below (bel 6 6 (by omega) (by omega))) (by omega) (Nat.mul_comm _ _)).mono ?_
      rintro e W1 ⟨rfl, hb⟩
      exact hJ _ _ ⟨hb, fun _ => rfl⟩
    intro J hJ
    go_simp
    refine hJ _ ?_
    clear hJ J
    refine fix4_step (.bool true) (by kernel_rfl) (by kernel_rfl) (fun J s _ _ hJ => ?_) ?_
    · go_simp
      exact hJ _ rfl
    intro J hJ
    go_simp
    refine hJ _ ?_
    clear hJ J
    refine fix4_eff 7 (.bool true) Q18.out (by kernel_rfl) (by kernel_rfl) (fun J hJ => ?_) ?_
    · go_simp
      exact hJ _ _ ⟨Below.refl _ _, fun _ => rfl⟩
    intro J hJ
    go_simp
    refine hJ _ ?_
    clear hJ J
    refine fix4_step (.func (.func 49) #[] #[]) (by kernel_rfl) (by kernel_rfl) (fun J s _ _ hJ => ?_) ?_
    · go_simp
      exact hJ _ rfl
    intro J hJ
    go_simp
    refine hJ _ ?_
    clear hJ J
    refine fix4_mid (.agg #[ua]) 0 36 (by kernel_rfl) (by kernel_rfl) (fun J s _ hs hJ => ?_) ?_
    · have hc := hca s hs
      go_simp
      exact hJ _ rfl
    intro J hJ
    go_simp
    refine hJ _ ?_
    clear hJ J
    refine fix4_mid (.agg #[ub]) 0 36 (by kernel_rfl) (by kernel_rfl) (fun J s _ hs hJ => ?_) ?_
    · have hc := hcb s hs
      go_simp
      exact hJ _ rfl
    intro J hJ
    go_simp
    refine hJ _ ?_
    clear hJ J
    refine fix4_eff 8 (.agg #[x22]) Q22.out (by kernel_rfl) (by kernel_rfl) (fun J hJ => ?_) ?_
    · go_simp
      go_at_call 23
      with_reducible refine (K_add (hNa 8 (by omega)) (hNb 8 (by omega)) (by omega) (by omega)).mono ?_
      rintro e W1 ⟨x, rfl, hx, hb⟩
      exact hJ _ _ ⟨hb, fun _ => ⟨x, rfl, hx⟩⟩
    intro J hJ
    go_simp
    refine hJ _ ?_
    clear hJ J
    refine fix4_mid (.agg #[uc]) 0 36 (by kernel_rfl) (by kernel_rfl) (fun J s _ hs hJ => ?_) ?_
    · have hc := hcc s hs
      go_simp
      exact hJ _ rfl
    intro J hJ
    go_simp
    refine hJ _ ?_
    clear hJ J
    refine fix4_eff 9 (.agg #[x24]) Q24.out (by kernel_rfl) (by kernel_rfl) (fun J hJ => ?_) ?_
    · go_simp
      go_at_call 23
      with_reducible refine (K_add (K22.below (bel 9 9 (by omega) (by omega))) (hNc 9 (by omega)) (by omega) (by omega)).mono ?_
      rintro e W1 ⟨x, rfl, hx, hb⟩
      exact hJ _ _ ⟨hb, fun _ => ⟨x, rfl, hx⟩⟩
    intro J hJ
    go_simp
    refine hJ _ ?_
    clear hJ J
    refine fix4_mid (.agg #[ua]) 0 36 (by kernel_rfl) (by kernel_rfl) (fun J s _ hs hJ => ?_) ?_
    · have hc := hca s hs
      go_simp
      exact hJ _ rfl
    intro J hJ
    go_simp
    refine hJ _ ?_
    clear hJ J
    refine fix4_mid (.agg #[ub]) 0 36 (by kernel_rfl) (by kernel_rfl) (fun J s _ hs hJ => ?_) ?_
    · have hc := hcb s hs
      go_simp
      exact hJ _ rfl
    intro J hJ
    go_simp
    refine hJ _ ?_
    clear hJ J
    refine fix4_mid (.agg #[uc]) 0 36 (by kernel_rfl) (by kernel_rfl) (fun J s _ hs hJ => ?_) ?_
    · have hc := hcc s hs
      go_simp
      exact hJ _ rfl
    intro J hJ
    go_simp
    refine hJ _ ?_
    clear hJ J
    refine fix4_eff 10 (.agg #[x28]) Q28.out (by kernel_rfl) (by kernel_rfl) (fun J hJ => ?_) ?_
    · go_simp
      go_at_call 23
      with_reducible refine (K_add (hNb 10 (by omega)) (hNc 10 (by omega)) (by omega) (by omega)).mono ?_
      rintro e W1 ⟨x, rfl, hx, hb⟩
      exact hJ _ _ ⟨hb, fun _ => ⟨x, rfl, hx⟩⟩
    intro J hJ
    go_simp
    refine hJ _ ?_
    clear hJ J
    refine fix4_eff 11 (.agg #[x29]) Q29.out (by kernel_rfl) (by kernel_rfl) (fun J hJ => ?_) ?_
    · go_simp
      go_at_call 23
      with_reducible refine (K_add (hNa 11 (by omega)) (K28.below (bel 11 11 (by omega) (by omega))) (by omega) (by omega)).mono ?_
      rintro e W1 ⟨x, rfl, hx, hb⟩
      exact hJ _ _ ⟨hb, fun _ => ⟨x, rfl, hx⟩⟩
    intro J hJ
    go_simp
    refine hJ _ ?_
    clear hJ J
    refine fix4_eff 12 (.bool true) Q30.out (by kernel_rfl) (by kernel_rfl) (fun J hJ => ?_) ?_
    · go_simp
      go_at_call 49
      with_reducible refine (K_same (K24.below (bel 10 12 (by omega) (by omega))) (K29.below (bel 12 12 (by omega) (by omega))) (by omega) ((Nat.add_assoc _ _ _).symm)).mono ?_
      rintro e W1 ⟨rfl, hb⟩
      exact hJ _ _ ⟨hb, fun _ => rfl⟩
    intro J hJ
    go_simp
    refine hJ _ ?_
    clear hJ J
    refine fix4_step (.bool true) (by kernel_rfl) (by kernel_rfl) (fun J s _ _ hJ => ?_) ?_
    · go_simp
      exact hJ _ rfl
    intro J hJ
    go_simp
    refine hJ _ ?_
    clear hJ J
    refine fix4_eff 13 (.bool true) Q32.out (by kernel_rfl) (by kernel_rfl) (fun J hJ => ?_) ?_
    · go_simp
      exact hJ _ _ ⟨Below.refl _ _, fun _ => rfl⟩
    intro J hJ
    go_simp
    refine hJ _ ?_
    clear hJ J
    refine fix4_step (.func (.func 49) #[] #[]) (by kernel_rfl) (by kernel_rfl) (fun J s _ _ hJ => ?_) ?_
    · go_simp
      exact hJ _ rfl
    intro J hJ
    go_simp
    refine hJ _ ?_
    clear hJ J
    refine fix4_mid (.agg #[ua]) 0 36 (by kernel_rfl) (by kernel_rfl) (fun J s _ hs hJ => ?_) ?_
    · have hc := hca s hs
      go_simp
      exact hJ _ rfl
    intro J hJ
    go_simp
    refine hJ _ ?_
    clear hJ J
    refine fix4_mid (.agg #[ub]) 0 36 (by kernel_rfl) (by kernel_rfl) (fun J s _ hs hJ => ?_) ?_
    · have hc := hcb s hs
      go_simp
      exact hJ _ rfl
    intro J hJ
    go_simp
    refine hJ _ ?_
    clear hJ J
    refine fix4_eff 14 (.agg #[x36]) Q36.out (by kernel_rfl) (by kernel_rfl) (fun J hJ => ?_) ?_
    · go_simp
      go_at_call 21
      with_reducible refine (K_mul (hNa 14 (by omega)) (hNb 14 (by omega)) (by omega) (by omega)).mono ?_
      rintro e W1 ⟨x, rfl, hx, hb⟩
      exact hJ _ _ ⟨hb, fun _ => ⟨x, rfl, hx⟩⟩
    intro J hJ
    go_simp
    refine hJ _ ?_
    clear hJ J
    refine fix4_mid (.agg #[uc]) 0 36 (by kernel_rfl) (by kernel_rfl) (fun J s _ hs hJ => ?_) ?_
    · have hc := hcc s hs
      go_simp
      exact hJ _ rfl
    intro J hJ
    go_simp
    refine hJ _ ?_
    clear hJ J
    refine fix4_eff 15 (.agg #[x38]) Q38.out (by kernel_rfl) (by kernel_rfl) (fun J hJ => ?_) ?_
    · go_simp
      go_at_call 21
      with_reducible refine (K_mul (K36.below (bel 15 15 (by omega) (by omega))) (hNc 15 (by omega)) (by omega) (by omega)).mono ?_
      rintro e W1 ⟨x, rfl, hx, hb⟩
      exact hJ _ _ ⟨hb, fun _ => ⟨x, rfl, hx⟩⟩
    intro J hJ
    go_simp
    refine hJ _ ?_
    clear hJ J
    refine fix4_mid (.agg #[ua]) 0 36 (by kernel_rfl) (by kernel_rfl) (fun J s _ hs hJ => ?_) ?_
    · have hc := hca s hs
      go_simp
      exact hJ _ rfl
    intro J hJ
    go_simp
    refine hJ _ ?_
    clear hJ J
    refine fix4_mid (.agg #[ub]) 0 36 (by kernel_rfl) (by kernel_rfl) (fun J s _ hs hJ => ?_) ?_
    · have hc := hcb s hs
      go_simp
      exact hJ _ rfl
    intro J hJ
    go_simp
    refine hJ _ ?_
    clear hJ J
    refine fix4_mid (.agg #[uc]) 0 36 (by kernel_rfl) (by kernel_rfl) (fun J s _ hs hJ => ?_) ?_
    · have hc := hcc s hs
      go_simp
      exact hJ _ rfl
    intro J hJ
    go_simp
    refine hJ _ ?_
    clear hJ J
    refine fix4_eff 16 (.agg #[x42]) Q42.out (by kernel_rfl) (by kernel_rfl) (fun J hJ => ?_) ?_
    · go_simp
      go_at_call 21
      with_reducible refine (K_mul (hNb 16 (by omega)) (hNc 16 (by omega)) (by omega) (by omega)).mono ?_
      rintro e W1 ⟨x, rfl, hx, hb⟩
      exact hJ _ _ ⟨hb, fun _ => ⟨x, rfl, hx⟩⟩
    intro J hJ
    go_simp
    refine hJ _ ?_
    clear hJ J
    refine fix4_eff 17 (.agg #[x43]) Q43.out (by kernel_rfl) (by kernel_rfl) (fun J hJ => ?_) ?_
    · go_simp
      go_at_call 21
      with_reducible refine (K_mul (hNa 17 (by omega)) (K42.below (bel 17 17 (by omega) (by omega))) (by omega) (by omega)).mono ?_
      rintro e W1 ⟨x, rfl, hx, hb⟩
      exact hJ _ _ ⟨hb, fun _ => ⟨x, rfl, hx⟩⟩
    intro J hJ
    go_simp
    refine hJ _ ?_
    clear hJ J
    refine fix4_eff 18 (.bool true) Q44.out (by kernel_rfl) (by kernel_rfl) (fun J hJ => ?_) ?_
    · go_simp
      go_at_call 49
      with_reducible refine (K_same (K38.below (bel 16 18 (by omega) (by omega))) (K43.below (bel 18 18 (by omega) (by omega))) (by omega) ((Nat.mul_assoc _ _ _).symm)).mono ?_
      rintro e W1 ⟨rfl, hb⟩
      exact hJ _ _ ⟨hb, fun _ => rfl⟩
    intro J hJ
    go_simp
    refine hJ _ ?_
    clear hJ J
    refine fix4_step (.bool true) (by kernel_rfl) (by kernel_rfl) (fun J s _ _ hJ => ?_) ?_
    · go_simp
      exact hJ _ rfl
    intro J hJ
    go_simp
    refine hJ _ ?_
    clear hJ J
    refine fix4_eff 19 (.bool true) Q46.out (by kernel_rfl) (by kernel_rfl) (fun J hJ => ?_) ?_
    · go_simp
      exact hJ _ _ ⟨Below.refl _ _, fun _ => rfl⟩
    intro J hJ
    go_simp
    refine hJ _ ?_
    clear hJ J
    refine fix4_step (.func (.func 49) #[] #[]) (by kernel_rfl) (by kernel_rfl) (fun J s _ _ hJ => ?_) ?_
    · go_simp
      exact hJ _ rfl
    intro J hJ
    go_simp
    refine hJ _ ?_
    clear hJ J
    refine fix4_mid (.agg #[ua]) 0 36 (by kernel_rfl) (by kernel_rfl) (fun J s _ hs hJ => ?_) ?_
    · have hc := hca s hs
      go_simp
      exact hJ _ rfl
    intro J hJ
    go_simp
    refine hJ _ ?_
    clear hJ J
    refine fix4_mid (.agg #[ub]) 0 36 (by kernel_rfl) (by kernel_rfl) (fun J s _ hs hJ => ?_) ?_
    · have hc := hcb s hs
      go_simp
      exact hJ _ rfl
    intro J hJ
    go_simp
    refine hJ _ ?_
    clear hJ J
    refine fix4_mid (.agg #[uc]) 0 36 (by kernel_rfl) (by kernel_rfl) (fun J s _ hs hJ => ?_) ?_
    · have hc := hcc s hs
      go_simp
      exact hJ _ rfl
    intro J hJ
    go_simp
    refine hJ _ ?_
    clear hJ J
    refine fix4_eff 20 (.agg #[x51]) Q51.out (by kernel_rfl) (by kernel_rfl) (fun J hJ => ?_) ?_
    · go_simp
      go_at_call 23
      with_reducible refine (K_add (hNb 20 (by omega)) (hNc 20 (by omega)) (by omega) (by omega)).mono ?_
      rintro e W1 ⟨x, rfl, hx, hb⟩
      exact hJ _ _ ⟨hb, fun _ => ⟨x, rfl, hx⟩⟩
    intro J hJ
    go_simp
    refine hJ _ ?_
    clear hJ J
    refine fix4_eff 21 (.agg #[x52]) Q52.out (by kernel_rfl) (by kernel_rfl) (fun J hJ => ?_) ?_
    · go_simp
      go_at_call 21
      with_reducible refine (K_mul (hNa 21 (by omega)) (K51.below (bel 21 21 (by omega) (by omega))) (by omega) (by omega)).mono ?_
      rintro e W1 ⟨x, rfl, hx, hb⟩
      exact hJ _ _ ⟨hb, fun _ => ⟨x, rfl, hx⟩⟩
    intro J hJ
    go_simp
    refine hJ _ ?_
    clear hJ J
    refine fix4_mid (.agg #[ua]) 0 36 (by kernel_rfl) (by kernel_rfl) (fun J s _ hs hJ => ?_) ?_
    · have hc := hca s hs
      go_simp
      exact hJ _ rfl
    intro J hJ
    go_simp
    refine hJ _ ?_
    clear hJ J
    refine fix4_mid (.agg #[ub]) 0 36 (by kernel_rfl) (by kernel_rfl) (fun J s _ hs hJ => ?_) ?_
    · have hc := hcb s hs
      go_simp
      exact hJ _ rfl
    intro J hJ
    go_simp
    refine hJ _ ?_
    clear hJ J
    refine fix4_eff 22 (.agg #[x55]) Q55.out (by kernel_rfl) (by kernel_rfl) (fun J hJ => ?_) ?_
    · go_simp
      go_at_call 21
      with_reducible refine (K_mul (hNa 22 (by omega)) (hNb 22 (by omega)) (by omega) (by omega)).mono ?_
      rintro e W1 ⟨x, rfl, hx, hb⟩
      exact hJ _ _ ⟨hb, fun _ => ⟨x, rfl, hx⟩⟩
    intro J hJ
    go_simp
    refine hJ _ ?_
    clear hJ J
    refine fix4_mid (.agg #[ua]) 0 36 (by kernel_rfl) (by kernel_rfl) (fun J s _ hs hJ => ?_) ?_
    · have hc := hca s hs
      go_simp
      exact hJ _ rfl
    intro J hJ
    go_simp
    refine hJ _ ?_
    clear hJ J
    refine fix4_mid (.agg #[uc]) 0 36 (by kernel_rfl) (by kernel_rfl) (fun J s _ hs hJ => ?_) ?_
    · have hc := hcc s hs
      go_simp
      exact hJ _ rfl
    intro J hJ
    go_simp
    refine hJ _ ?_
    clear hJ J
    refine fix4_eff 23 (.agg #[x58]) Q58.out (by kernel_rfl) (by kernel_rfl) (fun J hJ => ?_) ?_
    · go_simp
      go_at_call 21
      with_reducible refine (K_mul (hNa 23 (by omega)) (hNc 23 (by omega)) (by omega) (by omega)).mono ?_
      rintro e W1 ⟨x, rfl, hx, hb⟩
      exact hJ _ _ ⟨hb, fun _ => ⟨x, rfl, hx⟩⟩
    intro J hJ
    go_simp
    refine hJ _ ?_
    clear hJ J
    refine fix4_eff 24 (.agg #[x59]) Q59.out (by kernel_rfl) (by kernel_rfl) (fun J hJ => ?_) ?_
    · go_simp
      go_at_call 23
      with_reducible refine (K_add (K55.below (bel 23 24 (by omega) (by omega))) (K58.below (bel 24 24 (by omega) (by omega))) (by omega) (by omega)).mono ?_
      rintro e W1 ⟨x, rfl, hx, hb⟩
      exact hJ _ _ ⟨hb, fun _ => ⟨x, rfl, hx⟩⟩
    intro J hJ
    go_simp
    refine hJ _ ?_
    clear hJ J
    refine fix4_eff 25 (.bool true) Q60.out (by kernel_rfl) (by kernel_rfl) (fun J hJ => ?_) ?_
    · go_simp
      go_at_call 49
      with_reducible refine (K_same (K52.below (bel 22 25 (by omega) (by omega))) (K59.below (bel 25 25 (by omega) (by omega))) (by omega) ((Nat.mul_add _ _ _).symm)).mono ?_
      rintro e W1 ⟨rfl, hb⟩
      exact hJ _ _ ⟨hb, fun _ => rfl⟩
    intro J hJ
    go_simp
    refine hJ _ ?_
    clear hJ J
    refine fix4_step (.bool true) (by kernel_rfl) (by kernel_rfl) (fun J s _ _ hJ => ?_) ?_
    · go_simp
      exact hJ _ rfl
    intro J hJ
    go_simp
    refine hJ _ ?_
    clear hJ J
    refine fix4_eff 26 (.bool true) Q62.out (by kernel_rfl) (by kernel_rfl) (fun J hJ => ?_) ?_
    · go_simp
      exact hJ _ _ ⟨Below.refl _ _, fun _ => rfl⟩
    intro J hJ
    go_simp
    refine hJ _ ?_
    clear hJ J
    refine fix4_step (.bool true) (by kernel_rfl) (by kernel_rfl) (fun J s _ _ hJ => ?_) ?_
    · go_simp
      exact hJ _ rfl
    intro J hJ
    go_simp
    refine hJ _ ?_
    clear hJ J
    refine fix4_step (.bool true) (by kernel_rfl) (by kernel_rfl) (fun J s _ _ hJ => ?_) ?_
    · go_simp
      exact hJ _ rfl
    intro J hJ
    go_simp
    refine hJ _ ?_
    clear hJ J
    refine fix4_eff 27 (.bool true) Q65.out (by kernel_rfl) (by kernel_rfl) (fun J hJ => ?_) ?_
    · go_simp
      exact hJ _ _ ⟨Below.refl _ _, fun _ => rfl⟩
    intro J hJ
    go_simp
    refine hJ _ ?_
    clear hJ J
    refine fix4_step (.func (.func 49) #[] #[]) (by kernel_rfl) (by kernel_rfl) (fun J s _ _ hJ => ?_) ?_
    · go_simp
      exact hJ _ rfl
    intro J hJ
    go_simp
    refine hJ _ ?_
    clear hJ J
    refine fix4_mid (.agg #[ux]) 0 36 (by kernel_rfl) (by kernel_rfl) (fun J s _ hs hJ => ?_) ?_
    · have hc := hcx s hs
      go_simp
      exact hJ _ rfl
    intro J hJ
    go_simp
    refine hJ _ ?_
    clear hJ J
    refine fix4_mid (.agg #[ua]) 0 36 (by kernel_rfl) (by kernel_rfl) (fun J s _ hs hJ => ?_) ?_
    · have hc := hca s hs
      go_simp
      exact hJ _ rfl
    intro J hJ
    go_simp
    refine hJ _ ?_
    clear hJ J
    refine fix4_eff 28 (.bool true) Q69.out (by kernel_rfl) (by kernel_rfl) (fun J hJ => ?_) ?_
    · go_simp
      go_at_call 49
      with_reducible refine (K_same (hNx 28 (by omega)) (hNa 28 (by omega)) (by omega) (rfl)).mono ?_
      rintro e W1 ⟨rfl, hb⟩
      exact hJ _ _ ⟨hb, fun _ => rfl⟩
    intro J hJ
    go_simp
    refine hJ _ ?_
    clear hJ J
    refine fix4_step (.bool true) (by kernel_rfl) (by kernel_rfl) (fun J s _ _ hJ => ?_) ?_
    · go_simp
      exact hJ _ rfl
    intro J hJ
    go_simp
    refine hJ _ ?_
    clear hJ J
    refine fix4_eff 29 (.bool true) Q71.out (by kernel_rfl) (by kernel_rfl) (fun J hJ => ?_) ?_
    · go_simp
      exact hJ _ _ ⟨Below.refl _ _, fun _ => rfl⟩
    intro J hJ
    go_simp
    refine hJ _ ?_
    clear hJ J
    refine fix4_step (.func (.func 49) #[] #[]) (by kernel_rfl) (by kernel_rfl) (fun J s _ _ hJ => ?_) ?_
    · go_simp
      exact hJ _ rfl
    intro J hJ
    go_simp
    refine hJ _ ?_
    clear hJ J
    refine fix4_mid (.agg #[ua]) 0 36 (by kernel_rfl) (by kernel_rfl) (fun J s _ hs hJ => ?_) ?_
    · have hc := hca s hs
      go_simp
      exact hJ _ rfl
    intro J hJ
    go_simp
    refine hJ _ ?_
    clear hJ J
    refine fix4_eff 30 (.agg #[x74]) Q74.out (by kernel_rfl) (by kernel_rfl) (fun J hJ => ?_) ?_
    · go_simp
      go_at_call 30
      with_reducible refine (K_one _).mono ?_
      rintro e W1 ⟨x, rfl, hx, hb⟩
      exact hJ _ _ ⟨hb, fun _ => ⟨x, rfl, hx⟩⟩
    intro J hJ
    go_simp
    refine hJ _ ?_
    clear hJ J
    refine fix4_eff 31 (.agg #[x75]) Q75.out (by kernel_rfl) (by kernel_rfl) (fun J hJ => ?_) ?_
    · go_simp
      go_at_call 21
      with_reducible refine (K_mul (hNa 31 (by omega)) (K74.below (bel 31 31 (by omega) (by omega))) (by omega) (by omega)).mono ?_
      rintro e W1 ⟨x, rfl, hx, hb⟩
      exact hJ _ _ ⟨hb, fun _ => ⟨x, rfl, hx⟩⟩
    intro J hJ
    go_simp
    refine hJ _ ?_
    clear hJ J
    refine fix4_mid (.agg #[ua]) 0 36 (by kernel_rfl) (by kernel_rfl) (fun J s _ hs hJ => ?_) ?_
    · have hc := hca s hs
      go_simp
      exact hJ _ rfl
    intro J hJ
    go_simp
    refine hJ _ ?_
    clear hJ J
    refine fix4_eff 32 (.bool true) Q77.out (by kernel_rfl) (by kernel_rfl) (fun J hJ => ?_) ?_
    · go_simp
      go_at_call 49
      with_reducible refine (K_same (K75.below (bel 32 32 (by omega) (by omega))) (hNa 32 (by omega)) (by omega) ((Nat.mul_one _).symm)).mono ?_
      rintro e W1 ⟨rfl, hb⟩
      exact hJ _ _ ⟨hb, fun _ => rfl⟩
    intro J hJ
    go_simp
    refine hJ _ ?_
    clear hJ J
    refine fix4_step (.bool true) (by kernel_rfl) (by kernel_rfl) (fun J s _ _ hJ => ?_) ?_
    · go_simp
      exact hJ _ rfl
    intro J hJ
    go_simp
    refine hJ _ ?_
    clear hJ J
    refine fix4_eff 33 (.bool true) Q79.out (by kernel_rfl) (by kernel_rfl) (fun J hJ => ?_) ?_
    · go_simp
      exact hJ _ _ ⟨Below.refl _ _, fun _ => rfl⟩
    intro J hJ
    go_simp
    refine hJ _ ?_
    clear hJ J
    refine fix4_mid (.agg #[ua]) 0 36 (by kernel_rfl) (by kernel_rfl) (fun J s _ hs hJ => ?_) ?_
    · have hc := hca s hs
      go_simp
      exact hJ _ rfl
    intro J hJ
    go_simp
    refine hJ _ ?_
    clear hJ J
    refine fix4_step (.agg #[.slice none 0 0]) (by kernel_rfl) (by kernel_rfl) (fun J s _ _ hJ => ?_) ?_
    · go_simp
      exact hJ _ rfl
    intro J hJ
    go_simp
    refine hJ _ ?_
    clear hJ J
    refine fix4_eff 34 (.agg #[x82]) Q82.out (by kernel_rfl) (by kernel_rfl) (fun J hJ => ?_) ?_
    · go_simp
      go_at_call 21
      with_reducible refine (K_mul (hNa 34 (by omega)) (K_nil _) (by omega) (by omega)).mono ?_
      rintro e W1 ⟨x, rfl, hx, hb⟩
      exact hJ _ _ ⟨hb, fun _ => ⟨x, rfl, hx⟩⟩
    intro J hJ
    go_simp
    refine hJ _ ?_
    clear hJ J
    refine fix4_eff 35 (.bool true) Q83.out (by kernel_rfl) (by kernel_rfl) (fun J hJ => ?_) ?_
    · go_simp
      go_at_call 24
      with_reducible refine (K_zero (K82.below (bel 35 35 (by omega) (by omega))) (Nat.mul_zero _)).mono ?_
      rintro e W1 ⟨rfl, hb⟩
      exact hJ _ _ ⟨hb, fun _ => rfl⟩
    intro J hJ
    go_simp
    refine hJ _ ?_
    clear hJ J
    refine fix4_step (.bool true) (by kernel_rfl) (by kernel_rfl) (fun J s _ _ hJ => ?_) ?_
    · go_simp
      exact hJ _ rfl
    intro J hJ
    go_simp
    refine hJ _ ?_
    clear hJ J
    refine fix4_step (.bool true) (by kernel_rfl) (by kernel_rfl) (fun J s _ _ hJ => ?_) ?_
    · go_simp
      exact hJ _ rfl
    intro J hJ
    go_simp
    refine hJ _ ?_
    clear hJ J
    refine fix4_nil ?_
    go_wp2
    go_ret
    exact ⟨rfl, hbx.trans ((bw 36 (by omega)).mono hbx.size)⟩
end Go.Proofs.Ytclmdidgioggdaa.Walk
