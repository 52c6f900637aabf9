/- The document's digest. Contract by what it means. -/
import Derived.Test.YtgdpbnmhhbnkgaaDoorRefTurn
import Derived.Deep.QuietTactic
import Derived.BigQuiet
import Derived.Great.BuildSlice
namespace Go.Proofs.YtgdpbnmhhbnkgaaDoor.Cod
open Go.RowKit
theorem bl_size {s : ByteArray} {l : List UInt8} (h : bl s = l) : s.size = l.length := by rw [← bl_len, h]
def ZerRel (w : World) (s : ByteArray) (c : Nat) (u : Value) (wr : World) : Prop :=
  ∃ (z : Nat) (t : ByteArray), z ≤ c ∧ u = .string t ∧ bl t = bl s ++ 128 :: List.replicate z 0 ∧ Below w.heap.size w wr
theorem be8_drop (n k : Nat) (hk : k < 8) : (be8 n).drop (8 - (k + 1)) = UInt8.ofNat (n / 256 ^ k % 256) :: (be8 n).drop (8 - k) := by
  have h : (be8 n)[7 - k]? = some (UInt8.ofNat (n / 256 ^ k % 256)) := by
    unfold be8
    rw [List.getElem?_map, List.getElem?_range (by omega)]
    simp only [Option.map_some]
    rw [show 7 - (7 - k) = k by omega]
  obtain ⟨hl, hg⟩ := List.getElem?_eq_some_iff.1 h
  rw [show 8 - (k + 1) = 7 - k by omega, List.drop_eq_getElem_cons hl, hg, show 7 - k + 1 = 8 - k by omega]
def TailRel (w : World) (N : Nat) (n u i : Value) (wr : World) : Prop :=
  ∃ (k : Nat) (t : ByteArray), k ≤ 8 ∧ i = .int .i64 k ∧ n = .int .u64 (N / 256 ^ k : Nat) ∧ u = .string t ∧ bl t = (be8 N).drop (8 - k) ∧ Below w.heap.size w wr
/-- the eight words behind m blocks -/
def pre (P : List UInt8) : Nat → S8 | 0 => H0 | m + 1 => mixS (pre P m) ((P.drop (64 * m)).take 64)
theorem pre_ok (P : List UInt8) : ∀ m, (pre P m).ok | 0 => H0_ok | _ + 1 => mixS_ok _ _
theorem pre_blks (P : List UInt8) : ∀ (n m : Nat), blks n (pre P m) (P.drop (64 * m)) = pre P (m + n)
  | 0, _ => rfl
  | n + 1, m => by
    rw [blks]
    have := pre_blks P n (m + 1)
    rw [show m + (n + 1) = m + 1 + n by omega, ← this]
    show blks n (mixS (pre P m) ((P.drop (64 * m)).take 64)) _ = blks n (mixS (pre P m) ((P.drop (64 * m)).take 64)) _
    rw [List.drop_drop]
    rfl
theorem pre_all (P : List UInt8) (M : Nat) : blks M H0 P = pre P M := by
  have := pre_blks P M 0
  simpa [pre] using this
structure OfI (w : World) (P : List UInt8) (bh bk : Nat) (m : Nat) (wr : World) : Prop where
  b : Below w.heap.size w wr
  lo : w.heap.size ≤ bh
  hk : bh < bk
  z : bk < wr.heap.size
  hh : wr.heap[bh]? = some (.cells (words64 (pre P m).list) 39 (0, 0))
  kk : wr.heap[bk]? = some (.cells (words64 KEYS) 39 (0, 0))
def BlkRel (w : World) (P : List UInt8) (bh bk : Nat) (at_ : Value) (wr : World) : Prop :=
  ∃ m : Nat, m ≤ P.length / 64 ∧ at_ = .int .i64 ((64 * m : Nat) : Int) ∧ OfI w P bh bk m wr
/-- a word by its first bytes -/
def pbe (b : List UInt8) (k : Nat) : Nat → Nat | 0 => 0 | j + 1 => pbe b k j * 256 + (b.getD (4 * k + j) 0).toNat
theorem pbe_be4 (b : List UInt8) (k : Nat) : pbe b k 4 = be4 b k := by simp [pbe, be4]
theorem pbe_lt (b : List UInt8) (k : Nat) : ∀ j, j ≤ 4 → pbe b k j < 4294967296 ∧ (j ≤ 3 → pbe b k j < 16777216)
  | 0, _ => by simp [pbe]
  | 1, _ => by have := (b.getD (4 * k + 0) 0).toNat_lt; simp only [pbe]; omega
  | 2, _ => by have := (b.getD (4 * k + 0) 0).toNat_lt; have := (b.getD (4 * k + 1) 0).toNat_lt; simp only [pbe]; omega
  | 3, _ => by have := (b.getD (4 * k + 0) 0).toNat_lt; have := (b.getD (4 * k + 1) 0).toNat_lt; have := (b.getD (4 * k + 2) 0).toNat_lt; simp only [pbe]; omega
  | 4, _ => by have := (b.getD (4 * k + 0) 0).toNat_lt; have := (b.getD (4 * k + 1) 0).toNat_lt; have := (b.getD (4 * k + 2) 0).toNat_lt; have := (b.getD (4 * k + 3) 0).toNat_lt; simp only [pbe]; omega
def wl (l : List Nat) : List Value := l.map fun x : Nat => Value.int .u64 (x : Int)
theorem wl_one (l : List Nat) : ∀ u ∈ wl l, u.oneCell' = true := by
  intro u hu
  obtain ⟨x, _, rfl⟩ := List.mem_map.1 hu
  rfl
theorem app_one0 {wz wo : World} {g n cap : Nat} {l : List Value} (x : Nat) (i0 : TypeInfo) (hi : Tryd.prog.info? 39 = some i0) (hz0 : i0.zero = some (.int .u64 0)) (hz1 : i0.size = 1) (hz2 : i0.bytes = 8) (hor : wz.ownsRow wo.heap.size 39 1 (.slice (some ⟨g, 0, none⟩) n cap) n l) (h1 : n + 1 ≤ maxLen) (h2 : (n + 1) * 8 ≤ 140737488355328) (hzr : wo.heap.size ≤ wz.heap.size) :
    ∃ v2 w2, (Builtin.append_ #[23, 23] 23 #[.slice (some ⟨g, 0, none⟩) n cap, .slice (some ⟨wz.heap.size, 0, none⟩) 1 1]).run Tryd.prog (wz.drew.alloc (.cells #[.int .u64 (x : Nat)] 39)) = .ok v2 w2 ∧ w2.ownsRow wo.heap.size 39 1 v2 (n + 1) (l ++ [.int .u64 (x : Nat)]) ∧ (wz.drew.alloc (.cells #[.int .u64 (x : Nat)] 39)).grownBy w2 (Value.slice (some ⟨g, 0, none⟩) n cap).ownBlock := by
  have hnw : ∀ (j' : Nat) u, ([Value.int .u64 (x : Nat)] : List Value)[j']? = some u → (wz.drew.alloc (.cells #[.int .u64 (x : Nat)] 39)).cell? ((⟨wz.heap.size, 0, none⟩ : Addr).add j') = some u := by
    intro j' u hu
    rw [Addr.add_mid, Nat.zero_add]
    refine (cell_of_row _ _ _ _ _ _ (heap_alloc_new wz.drew _)).trans ?_
    simpa using hu
  obtain ⟨v2, w2, hrun, hown2, hgrow2, _⟩ := run_append_own (P := Tryd.prog) (w := wz.drew.alloc (.cells #[.int .u64 (x : Nat)] 39)) wo.heap.size 23 23 39 i0 (.int .u64 0) 1 8 Tryd.underlying23 hi hz0 hz1 hz2 rfl (by decide) _ _ _ (hor.drew.alloc _) ⟨wz.heap.size, 0, none⟩ 1 1 [.int .u64 (x : Nat)] rfl hnw (fun u hu => by simp at hu; subst hu; rfl) h1 h2 (by rw [World.size_alloc]; exact Nat.le_succ_of_le hzr)
  exact ⟨v2, w2, hrun, hown2, hgrow2⟩
theorem infoU64 : (Tryd.prog.info? 39).map (fun i => (i.zero, i.size, i.bytes)) = some (some (.int .u64 0), 1, 8) := by kernel_rfl
theorem slice_one (w : World) (x : Int) : (Instr.buildSlice 23 1 #[(0, .int .u64 x)]).run Tryd.prog w = .ok (.slice (some ⟨w.heap.size, 0, none⟩) 1 1) (w.alloc (.cells #[.int .u64 x] 39)) := by
  obtain ⟨i0, hi, hz0, hz1, hz2⟩ := info_parts infoU64
  refine Go.run_buildSlice w 23 39 1 #[(0, .int .u64 x)] #[.int .u64 x] i0 (.int .u64 0) Tryd.underlying23 hi hz0 (by rw [hz1]; decide) (by rw [hz1]; decide) ?_
  rw [hz1]
  first
    | kernel_rfl
    | (simp [Instr.fill]; done)
    | (simp [Instr.fill, Value.cells, Array.range]; done)
theorem wsum (y0 z0 y9 z1 x : Nat) (a : y0 < 4294967296) (b : z0 < 4294967296) (c : y9 < 4294967296) (d : z1 < 4294967296) (h : ((y0 : Int) + z0 + y9 + z1) % 4294967296 = x) : (IntKind.u64.wrap (IntKind.u64.wrap (IntKind.u64.wrap ((y0 : Int) + z0) + y9) + z1)).tmod 4294967296 = x := by
  have e1 : IntKind.u64.wrap ((y0 : Int) + z0) = y0 + z0 := by show ((y0 : Int) + z0) % 18446744073709551616 = _; omega
  have e2 : IntKind.u64.wrap ((y0 : Int) + z0 + y9) = y0 + z0 + y9 := by show ((y0 : Int) + z0 + y9) % 18446744073709551616 = _; omega
  have e3 : IntKind.u64.wrap ((y0 : Int) + z0 + y9 + z1) = y0 + z0 + y9 + z1 := by show ((y0 : Int) + z0 + y9 + z1) % 18446744073709551616 = _; omega
  rw [e1, e2, e3, Int.tmod_eq_emod_of_nonneg (by omega), h]
theorem pb_expr (p c : Nat) (hp : p < 16777216) (hc : c < 256) : IntKind.u64.wrap ((p : Int) * 256 + IntKind.u64.wrap (c : Int)) = ((p * 256 + c : Nat) : Int) := by
  rw [wrapu64 c (by omega)]
  have := wrapu64 (p * 256 + c) (by omega)
  rw [← this]; congr 1
theorem own_form {w : World} {base n : Nat} {e : TypeId} {v : Value} {xs : List Value} (h : w.ownsRow base e 1 v n xs) (hn : 0 < n) : ∃ g cap, v = .slice (some ⟨g, 0, none⟩) n cap ∧ base ≤ g ∧ g < w.heap.size ∧ ∀ j u, xs[j]? = some u → w.cell? ⟨g, j, none⟩ = some u := by
  have h' := h
  rcases h.2 with ⟨_, h0⟩ | ⟨g, cap, cur, rfl, hb, hg, _⟩
  · omega
  · refine ⟨g, cap, rfl, hb, (Array.getElem?_eq_some_iff.1 hg).1, fun j u hu => ?_⟩
    have := h'.cells (g := g) rfl j u hu
    rwa [Addr.add_mid, Nat.zero_add] at this
theorem wl_get (l : List Nat) (k x : Nat) (h : l[k]? = some x) : (wl l)[k]? = some (.int .u64 (x : Int)) := by simp [wl, h]
theorem Sg1_expr (y : Nat) (h : y < 4294967296) : bits .xor .u64 (bits .xor .u64 (rotr 6 y : Nat) (rotr 11 y : Nat)) (rotr 25 y : Nat) = ((Sg1 y : Nat) : Int) := by
  have r7 := rotr_lt 6 y (by omega) h
  have r18 := rotr_lt 11 y (by omega) h
  have r25 := rotr_lt 25 y (by omega) h
  rw [xor64 _ _ r7 r18, xor64 _ _ (xor_lt r7 r18) r25]; rfl
theorem Sg0_expr (y : Nat) (h : y < 4294967296) : bits .xor .u64 (bits .xor .u64 (rotr 2 y : Nat) (rotr 13 y : Nat)) (rotr 22 y : Nat) = ((Sg0 y : Nat) : Int) := by
  have r7 := rotr_lt 2 y (by omega) h
  have r18 := rotr_lt 13 y (by omega) h
  have r25 := rotr_lt 22 y (by omega) h
  rw [xor64 _ _ r7 r18, xor64 _ _ (xor_lt r7 r18) r25]; rfl
theorem maj_expr (a b c : Nat) (ha : a < 4294967296) (hb : b < 4294967296) (hc : c < 4294967296) : bits .xor .u64 (bits .xor .u64 (bits .and .u64 (a : Int) (b : Int)) (bits .and .u64 (a : Int) (c : Int))) (bits .and .u64 (b : Int) (c : Int)) = ((maj a b c : Nat) : Int) := by
  rw [and64 _ _ ha hb, and64 _ _ ha hc, and64 _ _ hb hc, xor64 _ _ (and_lt' hb) (and_lt' hc), xor64 _ _ (xor_lt (and_lt' hb) (and_lt' hc)) (and_lt' hc)]; rfl
theorem chs_expr (e f g : Nat) (he : e < 4294967296) (hf : f < 4294967296) (hg : g < 4294967296) : bits .xor .u64 (bits .and .u64 (e : Int) (f : Int)) (bits .and .u64 ((4294967295 - e : Nat) : Int) (g : Int)) = ((chs e f g : Nat) : Int) := by
  rw [and64 _ _ he hf, and64 _ _ (by omega) hg, xor64 _ _ (and_lt' hf) (and_lt' hg)]; rfl
theorem rnd_eq (y0 y1 y2 y3 y4 y5 y6 y7 kk wk : Nat) : rnd ⟨y0, y1, y2, y3, y4, y5, y6, y7⟩ (kk, wk) = ⟨((y7 + Sg1 y4 + chs y4 y5 y6 + kk + wk) % 4294967296 + (Sg0 y0 + maj y0 y1 y2) % 4294967296) % 4294967296, y0, y1, y2, (y3 + (y7 + Sg1 y4 + chs y4 y5 y6 + kk + wk) % 4294967296) % 4294967296, y4, y5, y6⟩ := rfl
theorem sg0_expr (y : Nat) (h : y < 4294967296) : bits .xor .u64 (bits .xor .u64 (rotr 7 y : Nat) (rotr 18 y : Nat)) (y / 8 : Nat) = ((sg0 y : Nat) : Int) := by
  have r7 := rotr_lt 7 y (by omega) h
  have r18 := rotr_lt 18 y (by omega) h
  rw [xor64 _ _ r7 r18, xor64 _ _ (xor_lt r7 r18) (by omega)]; rfl
theorem sg1_expr (y : Nat) (h : y < 4294967296) : bits .xor .u64 (bits .xor .u64 (rotr 17 y : Nat) (rotr 19 y : Nat)) (y / 1024 : Nat) = ((sg1 y : Nat) : Int) := by
  have r7 := rotr_lt 17 y (by omega) h
  have r18 := rotr_lt 19 y (by omega) h
  rw [xor64 _ _ r7 r18, xor64 _ _ (xor_lt r7 r18) (by omega)]; rfl
def ERel (b : List UInt8) (k : Nat) (x j : Value) : Prop := ∃ n : Nat, n ≤ 4 ∧ j = .int .i64 n ∧ x = .int .u64 (pbe b k n : Nat)
def WRel (wo : World) (W : List Nat) (lo : Nat) (v i : Value) (wr : World) : Prop :=
  ∃ k : Nat, lo ≤ k ∧ i = .int .i64 k ∧ wr.ownsRow wo.heap.size 39 1 v k (wl (W.take k)) ∧ Below wo.heap.size wo wr
def RndRel (wf : World) (y : S8) (W : List Nat) (v i : Value) (wr : World) : Prop :=
  ∃ (k gv cv : Nat), k ≤ 64 ∧ i = .int .i64 k ∧ v = .slice (some ⟨gv, 0, none⟩) 8 cv ∧ wf.heap.size ≤ gv ∧ (∀ (j : Nat) u, (wl (rnds y W k).list)[j]? = some u → wr.cell? ⟨gv, j, none⟩ = some u) ∧ Below wf.heap.size wf wr
def addD (x y : S8) (k : Nat) : Array Value := words64 ((addS x y).list.take k ++ x.list.drop k)
theorem addD_at (x y : S8) (k a : Nat) (hk : k < 8) (h : x.list[k]? = some a) : (addD x y k)[k]? = some (.int .u64 (a : Int)) := by
  refine words64_get _ _ _ ?_
  rw [List.getElem?_append_right (by rw [List.length_take, list8]; omega), List.length_take, list8, show k - min k 8 = 0 by omega, List.getElem?_drop]
  exact h
theorem addD_set (x y : S8) (k c : Nat) (hk : k < 8) (h : (addS x y).list[k]? = some c) : (addD x y k).setIfInBounds k (.int .u64 (c : Int)) = addD x y (k + 1) := by
  unfold addD words64
  rw [List.setIfInBounds_toArray, List.take_add_one, h, List.drop_eq_getElem_cons (l := x.list) (i := k) (by rw [list8]; exact hk)]
  congr 1
  rw [List.map_append, List.set_append_right _ _ (by rw [List.length_map, List.length_take, list8]; omega), List.length_map, List.length_take, show k - min k (addS x y).list.length = 0 by rw [list8]; omega]
  simp
  rw [List.drop_eq_getElem_cons (by rw [List.length_map, list8]; exact hk)]
  rfl
theorem addD_full (x y : S8) : addD x y 8 = words64 (addS x y).list := rfl
theorem list_lt {x : S8} (h : x.ok) {k a : Nat} (ha : x.list[k]? = some a) : a < 4294967296 := by
  obtain ⟨h0, h1, h2, h3, h4, h5, h6, h7⟩ := h
  obtain ⟨hl, hg⟩ := List.getElem?_eq_some_iff.1 ha
  have hm : a ∈ x.list := hg ▸ List.getElem_mem hl
  unfold S8.list at hm
  simp only [List.mem_cons, List.not_mem_nil, or_false] at hm
  rcases hm with rfl | rfl | rfl | rfl | rfl | rfl | rfl | rfl <;> assumption
theorem pre_succ (P : List UInt8) (m : Nat) : pre P (m + 1) = mixS (pre P m) ((P.drop (64 * m)).take 64) := rfl
def HRel (w : World) (x y : S8) (bh gv : Nat) (i : Value) (wr : World) : Prop :=
  ∃ k : Nat, k ≤ 8 ∧ i = .int .i64 k ∧ Below w.heap.size w wr ∧ wr.heap[bh]? = some (.cells (addD x y k) 39 (0, 0)) ∧ wr.heap[bh + 1]? = some (.cells (words64 KEYS) 39 (0, 0)) ∧ (∀ (j : Nat) u, (wl y.list)[j]? = some u → wr.cell? ⟨gv, j, none⟩ = some u) ∧ bh + 1 < wr.heap.size
def OutSRel (wo : World) (y : S8) (u i : Value) (wr : World) : Prop :=
  ∃ (k : Nat) (t : ByteArray), k ≤ 8 ∧ i = .int .i64 k ∧ u = .string t ∧ bl t = (y.list.take k).flatMap out4 ∧ Below wo.heap.size wo wr
theorem out4_len (y : S8) (k : Nat) (hk : k ≤ 8) : ((y.list.take k).flatMap out4).length = 4 * k := by
  have : ∀ l : List Nat, (l.flatMap out4).length = 4 * l.length := by
    intro l
    induction l with
    | nil => rfl
    | cons a l ih => rw [List.flatMap_cons, List.length_append, ih]; simp [out4]; omega
  rw [this, List.length_take, list8]; omega
/-- string of four bytes -/
theorem conv4 (W : World) (a b c d : Int) : (convert 25 9 (.slice (some ⟨W.heap.size, 0, none⟩) 4 4)).run Tryd.prog (W.alloc (.cells #[.int .u8 a, .int .u8 b, .int .u8 c, .int .u8 d] 5)) = .ok (.string ⟨#[UInt8.ofNat a.toNat, UInt8.ofNat b.toNat, UInt8.ofNat c.toNat, UInt8.ofNat d.toNat]⟩) (W.alloc (.cells #[.int .u8 a, .int .u8 b, .int .u8 c, .int .u8 d] 5)) := by
  have := run_convert_bytes_arg (P := Tryd.prog) (W.alloc (.cells #[.int .u8 a, .int .u8 b, .int .u8 c, .int .u8 d] 5)) 25 5 Tryd.underlying25 Tryd.underlying5 W.heap.size 0 4 4 [a, b, c, d] rfl (by
    intro i hi
    rcases i with _ | _ | _ | _ | i
    · simp
    · simp
    · simp
    · simp
    · omega) 9 Tryd.underlying9
  exact this
theorem getD_of {s : ByteArray} {P : List UInt8} (h : bl s = P) (A k i : Nat) (hk : k < 64) (hi : i = A + k) (hs : i < s.size) : (((P.drop A).take 64).getD k 0) = s[i] := by
  subst hi h
  have h1 : (A + k) < s.data.toList.length := by have := bl_len s; unfold bl at this; omega
  rw [List.getD_eq_getElem?_getD, List.getElem?_take, if_pos hk, List.getElem?_drop]
  show ((s.data.toList)[A + k]?).getD 0 = _
  rw [List.getElem?_eq_getElem h1]
  rfl
/-- the code within block n -/
def blkAt (n : Nat) : Code → Option Code
  | .seq a b => match blkAt n a with
    | some c => some c
    | none => blkAt n b
  | .cond _ a b => match blkAt n a with
    | some c => some c
    | none => blkAt n b
  | .block i b => if i == n then some b else blkAt n b
  | .loop b => blkAt n b
  | .scope b => blkAt n b
  | _ => none
def blk (f : Func) (n : Nat) : Code := ((f.body).bind (blkAt n)).getD .skip
end Go.Proofs.YtgdpbnmhhbnkgaaDoor.Cod
