/- CoxswainWeights: lemmas for its last two statements. -/
import Derived.Test.YtclmdidgioggdaaGainSum
import Derived.Laws.AppendOwn
import Derived.Laws.OwnMore
import Derived.Deep.CutRange
import Derived.StillTailTactics
import Derived.Test.YtclmdidgioggdaaFix5
namespace Go.Proofs.Ytclmdidgioggdaa.Num
open Go.RowKit Go.Proofs.YtclmdidgioggdaaW.PrintWords Go.Proofs.YtclmdidgioggdaaW.PrintLast Go.Proofs.Ytclmdidgioggdaa.Q
attribute [local go_sem ↓] Go.wp_at_zero Go.wp_at_succ
theorem Steps.take {w : World} {A : Option Addr} {l : List (Nat × Int)} (h : Steps w A l) (n : Nat) : Steps w A (l.take n) := by
  intro i hi
  have hi' : i < l.length := by rw [List.length_take] at hi; omega
  have := h i hi'
  simpa using this
/-- a number's row that lies below block B; in none of two blocks -/
def IsB (B : Nat) (w : World) (v : Value) (a : Nat) : Prop := Kd.V (Kd.int .u32) 27 w 0 (fun k => k < B) v (N a)
def IsX (B g : Nat) (w : World) (v : Value) (a : Nat) : Prop := Kd.V (Kd.int .u32) 27 w 0 (fun k => k ≠ B ∧ k ≠ g) v (N a)
theorem IsX.isN {B g : Nat} {w : World} {v : Value} {a : Nat} (h : IsX B g w v a) : IsN w v a := Kd.V_mono h (fun _ _ => trivial)
theorem IsX.step {B g : Nat} {w w1 : World} {v : Value} {a : Nat} (h : IsX B g w v a) (hm : ∀ k, (k ≠ B ∧ k ≠ g) → k < w.heap.size → w1.heap[k]? = w.heap[k]?) : IsX B g w1 v a := Kd.V_step h hm
theorem IsX.below {B g : Nat} {w w1 : World} {v : Value} {a : Nat} (h : IsX B g w v a) (hb : Below w.heap.size w w1) : IsX B g w1 v a := Kd.V_below h hb
theorem IsN.b {w : World} {v : Value} {a : Nat} (h : IsN w v a) : IsB w.heap.size w v a := Kd.V_mono (Kd.V_bound h) (fun _ hk => hk.2)
theorem IsB.below {B : Nat} {w w1 : World} {v : Value} {a : Nat} (h : IsB B w v a) (hb : Below B w w1) : IsB B w1 v a := Kd.V_step h (fun _ hk _ => hb.block _ hk)
theorem IsB.x {B g : Nat} {w : World} {v : Value} {a : Nat} (h : IsB B w v a) (hg : B < g) : IsX B g w v a := Kd.V_mono h (fun k hk => by omega)
theorem IsNF.x {B g C : Nat} {w : World} {v : Value} {a : Nat} (h : IsNF C w v a) (hC : B < C) (hg : g < C) : IsX B g w v a := Kd.V_mono h (fun k hk => by omega)
def cellsOf (R : List (Nat × Int)) : List Value := R.flatMap fun p => [.int .u64 p.1, .int .i64 p.2]
theorem cellsOf_len (R : List (Nat × Int)) : (cellsOf R).length = R.length * 2 := by
  induction R with
  | nil => rfl
  | cons p R ih => simp [cellsOf, List.flatMap_cons] at ih ⊢; omega
theorem cellsOf_cons (p : Nat × Int) (R : List (Nat × Int)) : cellsOf (p :: R) = .int .u64 p.1 :: .int .i64 p.2 :: cellsOf R := rfl
theorem cellsOf_append (R S : List (Nat × Int)) : cellsOf (R ++ S) = cellsOf R ++ cellsOf S := by simp [cellsOf, List.flatMap_append]
theorem cellsOf_get : ∀ (R : List (Nat × Int)) (i : Nat) (h : i < R.length), (cellsOf R)[i * 2]? = some (.int .u64 (R[i].1 : Int)) ∧ (cellsOf R)[i * 2 + 1]? = some (.int .i64 R[i].2)
  | [], i, h => absurd h (by simp)
  | p :: R, 0, _ => ⟨rfl, rfl⟩
  | p :: R, i + 1, h => by
    have := cellsOf_get R i (by simpa using h)
    rw [cellsOf_cons, show (i + 1) * 2 = i * 2 + 1 + 1 by omega]
    exact this
theorem cellsOf_one (R : List (Nat × Int)) : ∀ u ∈ cellsOf R, u.oneCell' = true := by
  intro u hu
  obtain ⟨p, _, hp⟩ := List.mem_flatMap.1 hu
  simp at hp
  rcases hp with rfl | rfl <;> rfl
theorem cellsOf_take (R : List (Nat × Int)) (n : Nat) : cellsOf (R.take n) = (cellsOf R).take (n * 2) := by
  induction R generalizing n with
  | nil => simp [cellsOf]
  | cons p R ih =>
    cases n with
    | zero => simp [cellsOf]
    | succ n => rw [List.take_succ_cons, cellsOf_cons, ih, cellsOf_cons, show (n + 1) * 2 = n * 2 + 1 + 1 by omega, List.take_succ_cons, List.take_succ_cons]
theorem cellsOf_drop (R : List (Nat × Int)) (n : Nat) : cellsOf (R.drop n) = (cellsOf R).drop (n * 2) := by
  induction R generalizing n with
  | nil => simp [cellsOf]
  | cons p R ih =>
    cases n with
    | zero => simp
    | succ n => rw [List.drop_succ_cons, ih, cellsOf_cons, show (n + 1) * 2 = n * 2 + 1 + 1 by omega, List.drop_succ_cons, List.drop_succ_cons]
theorem steps_cells {w : World} {ad : Addr} {l : List (Nat × Int)} (h : Steps w (some ad) l) : ∀ (j : Nat) (u : Value), (cellsOf l)[j]? = some u → w.cell? (ad.add j) = some u := by
  intro j u hu
  have hj : j < l.length * 2 := by rw [← cellsOf_len]; exact (List.getElem?_eq_some_iff.1 hu).1
  obtain ⟨ad', e, _, h1, h2⟩ := h (j / 2) (by omega)
  injection e with e
  subst e
  obtain ⟨g1, g2⟩ := cellsOf_get l (j / 2) (by omega)
  rcases Nat.mod_two_eq_zero_or_one j with hm | hm
  · have e : j / 2 * 2 = j := by omega
    rw [e] at h1 g1
    rw [h1, ← g1, hu]
  · have e : j / 2 * 2 + 1 = j := by omega
    rw [e] at g2
    have e2 : ad.add (j / 2 * 2 + 1) = ⟨(ad.add (j / 2 * 2)).block, (ad.add (j / 2 * 2)).off + 1, none⟩ := by
      rw [add_field _ _ 1 (by omega)]
    rw [e] at e2
    rw [e2, h2, ← g2, hu]
theorem tot_remove (R : List (Nat × Int)) (j : Nat) (h : j < R.length) : tot (R.take j ++ R.drop (j + 1)) + gK R[j].1 R[j].2 = tot R := by
  induction R generalizing j with
  | nil => exact absurd h (by simp)
  | cons p R ih =>
    cases j with
    | zero => simp [tot]; omega
    | succ j =>
      have := ih j (by simpa using h)
      simp only [List.take_succ_cons, List.cons_append, List.drop_succ_cons, tot, List.getElem_cons_succ]
      omega
theorem pick (z : Int) (m : Nat) (h0 : 0 < m) (h8 : m ≤ 8) : ∃ j : Nat, (wrap64 (z.tmod m + m)).tmod m = (j : Int) ∧ j < m := by
  have h1 := Int.tmod_lt_of_pos z (show (0 : Int) < m by omega)
  have h2 := Int.lt_tmod_of_pos z (show (0 : Int) < m by omega)
  have hw : wrap64 (z.tmod m + m) = z.tmod m + m := by unfold wrap64; omega
  rw [hw]
  have h3 := Int.tmod_lt_of_pos (z.tmod m + m) (show (0 : Int) < m by omega)
  have h4 := Int.tmod_nonneg (m : Int) (show 0 ≤ z.tmod m + m by omega)
  exact ⟨((z.tmod m + m).tmod m).toNat, by omega, by omega⟩
theorem owns_step {w w' : World} {base : Nat} {e : TypeId} {size : Nat} {g cap n : Nat} {xs : List Value} (h : w.ownsRow base e size (.slice (some ⟨g, 0, none⟩) n cap) n xs) (hk : w'.heap[g]? = w.heap[g]?) : w'.ownsRow base e size (.slice (some ⟨g, 0, none⟩) n cap) n xs := by
  refine ⟨h.1, ?_⟩
  rcases h.2 with ⟨q, _⟩ | ⟨g', cap', cur, q, hb, hg, hr⟩
  · simp at q
  · simp only [Value.slice.injEq, Option.some.injEq, Addr.mk.injEq, and_true, true_and] at q
    obtain ⟨rfl, rfl⟩ := q
    exact .inr ⟨g, cap, cur, rfl, hb, hk.trans hg, hr⟩
theorem owns_take {w : World} {base : Nat} {e : TypeId} {g cap : Nat} {R : List (Nat × Int)} (h : w.ownsRow base e 2 (.slice (some ⟨g, 0, none⟩) R.length cap) R.length (cellsOf R)) (j : Nat) (hj : j ≤ R.length) : w.ownsRow base e 2 (.slice (some ⟨g, 0, none⟩) j cap) j (cellsOf (R.take j)) := by
  refine ⟨by rw [cellsOf_len, List.length_take]; omega, ?_⟩
  rcases h.2 with ⟨q, _⟩ | ⟨g', cap', cur, q, hb, hg, hn, hm, hs, ht⟩
  · simp at q
  · simp only [Value.slice.injEq, Option.some.injEq, Addr.mk.injEq, and_true, true_and] at q
    obtain ⟨rfl, rfl⟩ := q
    refine .inr ⟨g, cap, cur, rfl, hb, hg, by omega, hm, hs, ?_⟩
    rw [cellsOf_take, ← ht, List.take_take]
    congr 1
    omega
theorem owns_facts {w : World} {base : Nat} {e : TypeId} {g cap n : Nat} {xs : List Value} (h : w.ownsRow base e 2 (.slice (some ⟨g, 0, none⟩) n cap) n xs) : g < w.heap.size ∧ n ≤ cap ∧ cap ≤ maxLen ∧ base ≤ g := by
  rcases h.2 with ⟨q, _⟩ | ⟨g', cap', cur, q, hb, hg, hn, hm, _⟩
  · simp at q
  · simp only [Value.slice.injEq, Option.some.injEq, Addr.mk.injEq, and_true, true_and] at q
    obtain ⟨rfl, rfl⟩ := q
    exact ⟨(Array.getElem?_eq_some_iff.1 hg).1, hn, hm, hb⟩
def WRel (w : World) (a0 B g cap s n : Nat) (x v i : Value) (wr : World) : Prop :=
  ∃ (k : Nat) (R : List (Nat × Int)) (acc : Nat) (y : Value), i = .int .i64 k ∧ R.length + k = n ∧ wide R ∧ tot R + acc = s ∧ v = .slice (some ⟨g, 0, none⟩) R.length cap ∧ wr.heap[a0]? = some (.cells #[x] 31 (0, 0)) ∧ IsX B g wr x s ∧
    wr.heap[B]? = some (.cells #[y] 31 (0, 0)) ∧ IsX B g wr y acc ∧ wr.ownsRow (B + 1) 53 2 v R.length (cellsOf R) ∧ Below w.heap.size w wr
theorem info53 : (Try.prog.info? 53).map (fun i => (i.zero, i.size, i.bytes)) = some (some (.agg #[.int .u64 0, .int .i64 0]), 2, 16) := by kernel_rfl
theorem del_step {W : World} {base g cap j : Nat} {R : List (Nat × Int)} {i0 : TypeInfo} (hi : Try.prog.info? 53 = some i0) (hz1 : i0.size = 2) (h : W.ownsRow base 53 2 (.slice (some ⟨g, 0, none⟩) R.length cap) R.length (cellsOf R)) (hj : j < R.length) (hc : R.length ≤ cap) :
    ∃ (ad : Addr) (w9 : World), (if cap = j + 1 then some (⟨g, 0, none⟩ : Addr) else some ⟨g, (j + 1) * 2, none⟩) = some ad ∧
      (Builtin.append_ #[50, 50] 50 #[.slice (some ⟨g, 0, none⟩) j cap, .slice (some ad) (R.length - (j + 1)) (cap - (j + 1))]).run Try.prog W = .ok (.slice (some ⟨g, 0, none⟩) (j + (R.length - (j + 1))) cap) w9 ∧
      w9.ownsRow base 53 2 (.slice (some ⟨g, 0, none⟩) (j + (R.length - (j + 1))) cap) (j + (R.length - (j + 1))) (cellsOf (R.take j) ++ cellsOf (R.drop (j + 1))) ∧ W.grownBy w9 (some g) := by
  have oj := owns_take h j (by omega)
  have key : ∀ ad : Addr, (∀ (q : Nat) (u : Value), (cellsOf (R.drop (j + 1)))[q]? = some u → W.cell? (ad.add q) = some u) → _ := fun ad hadn =>
    run_append_fits (P := Try.prog) W base 50 50 53 i0 2 Try.underlying50 hi hz1 g j cap (cellsOf (R.take j)) oj ad (R.length - (j + 1)) (cap - (j + 1)) (cellsOf (R.drop (j + 1))) (by rw [cellsOf_len, List.length_drop]) hadn (cellsOf_one _) (by omega)
  by_cases hcj : cap = j + 1
  · obtain ⟨w9, a, b, c⟩ := key ⟨g, 0, none⟩ (fun q u hq => by
      rw [List.drop_eq_nil_of_le (by omega)] at hq
      simp [cellsOf] at hq)
    exact ⟨_, w9, if_pos hcj, a, b, c⟩
  · obtain ⟨w9, a, b, c⟩ := key ⟨g, (j + 1) * 2, none⟩ (fun q u hq => by
      rw [cellsOf_drop, List.getElem?_drop] at hq
      rw [Addr.add_mid]
      have hq2 : (j + 1) * 2 + q < R.length * 2 := by rw [← cellsOf_len]; exact (List.getElem?_eq_some_iff.1 hq).1
      exact (h.cellAt _ hq2).trans hq)
    exact ⟨_, w9, if_neg hcj, a, b, c⟩
theorem exec_slice {P : Program} {a : Act} {o : Oper} (t : TypeId) (x : Operand) (lo hi : Option Operand) (ho : o.op = .slice t x lo hi none) (u : Value) (l h : Option Value) (hx : a.eval x = u) (hl : lo.map a.eval = l) (hh : hi.map a.eval = h) {w : World} {v : Value} (hr : (Instr.sliceAt t u l h none).run P w = .ok v w) : (execOp a.eval o).run P w = .ok (.value v) w := by
  unfold execOp
  simp only [ho, Sem.run_bind, Sem.run_pure, Result.andThen_ok, hx, hl, hh, Option.map_none, hr]
theorem wp_run {P : Program} {op : Oper} {a : Act} {w : World} {K : Act → World → Prop} {Q : Exit → Act → World → Prop} {v : Value} (h : (execOp a.eval op).run P w = .ok (.value v) w) (hK : K (a.put op.dst v) w) : op.wp P a w K Q := by
  unfold Oper.wp
  rw [h]
  exact hK
theorem size53 (w : World) : (sizeOf (Try.prog.elem 50)).run Try.prog w = .ok 2 w := by
  obtain ⟨i0, hi, _, hz1, _⟩ := info_parts info53
  have he : Try.prog.elem 50 = 53 := by kernel_rfl
  rw [he]
  simp [sizeOf, typeInfo, hi, hz1]
theorem slice_hi (W : World) (g n cap j : Nat) (h : j ≤ cap) : (Instr.sliceAt 50 (.slice (some ⟨g, 0, none⟩) n cap) none (some (.int .i64 (j : Int))) none).run Try.prog W = .ok (.slice (some ⟨g, 0, none⟩) j cap) W := by
  have hu : Try.prog.underlying 50 = some (.slice (Try.prog.elem 50)) := by kernel_rfl
  rw [run_sliceAt_slice W 50 _ _ _ _ hu, run_slice_h W 50 _ n cap hu .i64 (j : Int) (by omega) (by omega), size53]
  simp [Result.andThen, sliced, Addr.add]
theorem slice_lo (W : World) (g n cap j : Nat) (ad : Addr) (q : Int) (hq : q = ((j + 1 : Nat) : Int)) (h : j + 1 ≤ n) (had : (if cap = j + 1 then some (⟨g, 0, none⟩ : Addr) else some ⟨g, (j + 1) * 2, none⟩) = some ad) : (Instr.sliceAt 50 (.slice (some ⟨g, 0, none⟩) n cap) (some (.int .i64 q)) none none).run Try.prog W = .ok (.slice (some ad) (n - (j + 1)) (cap - (j + 1))) W := by
  subst hq
  have hu : Try.prog.underlying 50 = some (.slice (Try.prog.elem 50)) := by kernel_rfl
  rw [run_sliceAt_slice W 50 _ _ _ _ hu, run_slice_l W 50 _ n cap hu .i64 ((j + 1 : Nat) : Int) (by omega) (by omega), size53, ← had]
  simp only [Result.andThen, sliced, Int.toNat_natCast, Option.map_some]
  congr 2
  split
  · rfl
  · rw [Addr.add_mid]; simp
end Go.Proofs.Ytclmdidgioggdaa.Num
namespace Go.Proofs.Ytclmdidgioggdaa.Num
open Go.Proofs.Ytclmdidgioggdaa.Cod
open Go.RowKit Go.Proofs.YtclmdidgioggdaaW.PrintWords Go.Proofs.YtclmdidgioggdaaW.PrintLast Go.Proofs.Ytclmdidgioggdaa.Q
/-- a store into a cell that holds a slice's head leaves a number as it is -/
theorem IsN.set {W : World} {x v : Value} {n p : Nat} {A0 : Option Addr} {n0 c0 : Nat} {t : TypeId} (h : IsN W x n) (hp : W.heap[p]? = some (.cells #[.slice A0 n0 c0] t (0, 0))) : IsN (W.setCell ⟨p, 0, none⟩ v) x n := by
  obtain ⟨A, c, hv, hl, hf⟩ := h
  refine ⟨A, c, hv, hl, fun W' hW' => ?_⟩
  obtain ⟨h1, h2, h3⟩ := hf W (fun _ _ _ => rfl)
  refine ⟨h1, h2, fun h0 => ?_⟩
  obtain ⟨ad, hA, hc⟩ := h3 h0
  refine ⟨ad, hA, fun j q hq => ?_⟩
  obtain ⟨cs, hs, hk, hcell⟩ := hc j q hq
  refine ⟨cs, hs, hk, fun i u hu => ?_⟩
  have hcu := hcell i u hu
  have hku : u = .int .u32 q := by
    have hk : cs = [.int .u32 q] := hk
    subst hk
    rcases i with _ | i
    · simpa using hu.symm
    · simp at hu
  have hlt := World.block_lt_of_cell? W _ hcu
  have hb : (ad.add (j * 1 + i)).block ≠ p := by
    intro e
    unfold World.cell? at hcu
    have hcu' : W.cell? (ad.add (j * 1 + i)) = some u := hcell i u hu
    unfold World.cell? at hcu'
    rw [e, hp] at hcu'
    simp only at hcu'
    split at hcu'
    · cases hcu'
    · subst hku
      rcases hoff : (ad.add (j * 1 + i)).off with _ | o <;> rw [hoff] at hcu' <;> simp at hcu'
  have e1 : W'.heap[(ad.add (j * 1 + i)).block]? = W.heap[(ad.add (j * 1 + i)).block]? := (hW' _ trivial (by have hlt' : (ad.add (j * 1 + i)).block < W.heap.size := hlt; simpa using hlt')).trans (Below.heap_setCell W _ v _ hb)
  show W'.cell? (ad.add (j * 1 + i)) = some u
  have hcu' : W.cell? (ad.add (j * 1 + i)) = some u := hcu
  unfold World.cell? at hcu' ⊢
  rw [e1]
  exact hcu'
def ptrOf (v : Value) : Option Nat := match v with
  | .pointer (some q) => some q.block
  | _ => none
def tupOf (v : Value) : Option Value := match v with
  | .tuple cs => (match (cs[0]? : Option Value) with
    | some (Value.agg ds) => (ds[0]? : Option Value)
    | _ => none)
  | _ => none
def hist (k : Nat) (g : Nat → World × Value) : List Value := (List.range k).map fun n => (g (n + 1)).2
theorem hist_cong {k : Nat} {g g' : Nat → World × Value} (h : ∀ n, n ≤ k → g n = g' n) : hist k g = hist k g' := by
  unfold hist
  refine List.map_congr_left fun n hn => ?_
  rw [h (n + 1) (by have := List.mem_range.1 hn; omega)]
/-- what the operations of the statement before the last do -/
def S16 (n : Nat) (i k : Nat) (g : Nat → World × Value) (W' : World) (u : Value) : Prop := match i with
  | 1 => Below (g k).1.heap.size (g k).1 W' ∧ ((∃ W2 x, Below (g k).1.heap.size (g k).1 W2 ∧ IsK W2 x 5 20) → ∃ x, u = .agg #[x] ∧ IsK W' x 5 20)
  | 2 => Below (g k).1.heap.size (g k).1 W' ∧ ((∃ W2 x, Below (g k).1.heap.size (g k).1 W2 ∧ IsK W2 x n 60) → ∃ x, u = .tuple #[.agg #[x], .bool true] ∧ IsK W' x n 60)
  | 6 => W' = (g k).1.alloc (.cells #[.slice none 0 0] 31) ∧ u = .pointer (some ⟨(g k).1.heap.size, 0, none⟩)
  | 7 => ∀ p x, (hist k g).findSome? ptrOf = some p → (hist k g).findSome? tupOf = some x → W' = (g k).1.setCell ⟨p, 0, none⟩ x
  | _ => W' = (g k).1
theorem s16_cong (n : Nat) (i k : Nat) (g g' : Nat → World × Value) (W : World) (u : Value) (h : ∀ n, n ≤ k → g n = g' n) (hs : S16 n i k g W u) : S16 n i k g' W u := by
  unfold S16 at hs ⊢
  rw [← h k (Nat.le_refl _), ← hist_cong h]
  exact hs
theorem s16_tot (n : Nat) (i k : Nat) (g : Nat → World × Value) : ∃ W' u, S16 n i k g W' u := by
  have hn : ∀ n k', ∃ W' u, Below (g k).1.heap.size (g k).1 W' ∧ ((∃ W2 x, Below (g k).1.heap.size (g k).1 W2 ∧ IsK W2 x n k') → IsK W' u n k') := by
    intro n k'
    by_cases h : ∃ W2 x, Below (g k).1.heap.size (g k).1 W2 ∧ IsK W2 x n k'
    · obtain ⟨W2, x, h1, h2⟩ := h
      exact ⟨W2, x, h1, fun _ => h2⟩
    · exact ⟨(g k).1, undef, Below.refl _ _, fun h' => absurd h' h⟩
  rcases (by omega : i = 1 ∨ i = 2 ∨ i = 6 ∨ i = 7 ∨ (i ≠ 1 ∧ i ≠ 2 ∧ i ≠ 6 ∧ i ≠ 7)) with rfl | rfl | rfl | rfl | ⟨h2, h4, h8, h9⟩
  · obtain ⟨W', u, h1, h2⟩ := hn 5 20
    exact ⟨W', .agg #[u], h1, fun h => ⟨u, rfl, h2 h⟩⟩
  · obtain ⟨W', u, h1, h2⟩ := hn n 60
    exact ⟨W', .tuple #[.agg #[u], .bool true], h1, fun h => ⟨u, rfl, h2 h⟩⟩
  · exact ⟨_, _, rfl, rfl⟩
  · cases hp : (hist k g).findSome? ptrOf with
    | none => exact ⟨(g k).1, undef, fun p x h _ => by rw [hp] at h; cases h⟩
    | some p =>
      cases hx : (hist k g).findSome? tupOf with
      | none => exact ⟨(g k).1, undef, fun p x _ h => by rw [hx] at h; cases h⟩
      | some x => exact ⟨(g k).1.setCell ⟨p, 0, none⟩ x, undef, fun p' x' h h' => by rw [hp] at h; rw [hx] at h'; cases h; cases h'; rfl⟩
  · refine ⟨(g k).1, undef, ?_⟩
    unfold S16
    split <;> first | rfl | (exfalso; omega)
theorem calls_some {P : Program} {f : FuncId} {args : Array Value} {w : World} {R : Ending → World → Prop} (h : Calls P f args w R) : ∃ e w', R e w' := by
  obtain ⟨e, w', _, h, _⟩ := h []
  exact ⟨e, w', h⟩
theorem chain_below {g : Nat → World × Value} {n : Nat} (h : ∀ k, k < n → Below (g k).1.heap.size (g k).1 (g (k + 1)).1) : ∀ d i : Nat, i + d ≤ n → Below (g i).1.heap.size (g i).1 (g (i + d)).1
  | 0, i, _ => Below.refl _ _
  | d + 1, i, hd => by
    have h1 := chain_below h d i (by omega)
    exact h1.trans ((h (i + d) (by omega)).mono h1.size)
def PW (n : Nat) (i : Nat) (W : World) (u : Value) : Prop := match i with
  | 2 => u = .int .i64 0
  | 11 => ∃ x, u = .agg #[x] ∧ IsK W x n 60
  | 12 => u = .int .i64 0
  | 17 => u = .string (dec (5 + n))
  | 19 => u = .string (dec (5 + n))
  | 23 => u = .int .i64 256
  | _ => u = .bool true
def SW (n : Nat) (i : Nat) (W W' : World) (u : Value) : Prop := Below W.heap.size W W' ∧ ((∃ W2 u2, Below W.heap.size W W2 ∧ PW n i W2 u2) → PW n i W' u)
theorem sw_tot (n i : Nat) (W : World) : ∃ W' u, SW n i W W' u := by
  by_cases h : ∃ W2 u2, Below W.heap.size W W2 ∧ PW n i W2 u2
  · obtain ⟨W2, u2, h1, h2⟩ := h
    exact ⟨W2, u2, h1, fun _ => h2⟩
  · exact ⟨W, undef, Below.refl _ _, fun h' => absurd h' h⟩
theorem K_sum0 {w : World} {A : Option Addr} {c : Nat} {l : List (Nat × Int)} (hl : Steps w A l) (hw : wide l) (h12 : l.length ≤ 12) :
    Calls Try.prog 36 #[.agg #[.slice none 0 0], .slice A l.length c] w fun e w' => ∃ x, e = .returned (.agg #[x]) ∧ IsK w' x (tot l) 60 ∧ Below w.heap.size w w' := by
  have := C_sum (c := c) ((K_nil w).mono (l := 30) (by omega)) hl hw h12
  rw [Nat.zero_add] at this
  exact this
theorem K_cmp0 {w : World} {u v : Value} {a k l : Nat} (ha : IsK w u a k) (hb : IsK w v a l) (hk : k ≤ 1000) (hl : l ≤ 1000) :
    Calls Try.prog 33 #[.agg #[u], .agg #[v]] w fun e w' => e = .returned (.int .i64 0) ∧ Below w.heap.size w w' := by
  have := K_cmp ha hb hk hl
  rw [if_neg (by omega), if_neg (by omega)] at this
  exact this
theorem K_five (w : World) : Calls Try.prog 30 #[.int .u64 5] w fun e w' => ∃ x, e = .returned (.agg #[x]) ∧ IsK w' x 5 20 ∧ Below w.heap.size w w' := K_of w 5 (by omega)
theorem lg_two : lg 2 = 256 := by kernel_rfl
theorem K_log2 (w : World) : Calls Try.prog 17 #[.int .u64 2] w fun e w' => e = .returned (.int .i64 256) ∧ Below w.heap.size w w' := by
  have h := E_log 2 (by omega)
  rw [lg_two] at h
  obtain ⟨k, hk⟩ := Ev.got h
  exact gain_Log.calls k 2 _ w hk
end Go.Proofs.Ytclmdidgioggdaa.Num
