/- gain.Sum: its walk, by what its calls mean. -/
import Derived.Test.YtclmdidgioggdaaGainC
import Derived.Deep.RegionWith
import Derived.Deep.DrawnRows
import Derived.Outline
namespace Go.Proofs.Ytclmdidgioggdaa.Num
open Go.RowKit Go.Proofs.YtclmdidgioggdaaW.PrintWords Go.Proofs.YtclmdidgioggdaaW.PrintLast Go.Proofs.Ytclmdidgioggdaa.Q
attribute [local irreducible] IsN IsNk IsNF
attribute [local go_sem ↓] Go.wp_at_zero Go.wp_at_succ
/-- steps' cells -/
def Steps (w : World) (A : Option Addr) (l : List (Nat × Int)) : Prop :=
  ∀ i (h : i < l.length), ∃ ad, A = some ad ∧ ad.block < w.heap.size ∧ w.cell? (ad.add (i * 2)) = some (.int .u64 (l[i].1 : Int)) ∧ w.cell? ⟨(ad.add (i * 2)).block, (ad.add (i * 2)).off + 1, none⟩ = some (.int .i64 l[i].2)
theorem add_block (a : Addr) (n : Nat) : (a.add n).block = a.block := by unfold Addr.add; split <;> rfl
theorem Steps.below {w w1 : World} {A : Option Addr} {l : List (Nat × Int)} (h : Steps w A l) (hb : Below w.heap.size w w1) : Steps w1 A l := by
  intro i hi
  obtain ⟨ad, e, hl, h1, h2⟩ := h i hi
  exact ⟨ad, e, Nat.lt_of_lt_of_le hl hb.size, (hb.cell (by rw [add_block]; exact hl)).trans h1, (hb.cell (p := ⟨(ad.add (i * 2)).block, (ad.add (i * 2)).off + 1, none⟩) (by rw [add_block]; exact hl)).trans h2⟩
def wide (l : List (Nat × Int)) : Prop := ∀ p ∈ l, p.1 < 18446744073709551616 ∧ -9223372036854775808 ≤ p.2 ∧ p.2 ≤ 9223372036854775807
def tot : List (Nat × Int) → Nat | [] => 0 | p :: l => gK p.1 p.2 + tot l
theorem tot_snoc (l : List (Nat × Int)) (p : Nat × Int) : tot (l ++ [p]) = tot l + gK p.1 p.2 := by
  induction l with
  | nil => simp [tot]
  | cons q l ih => simp only [List.cons_append, tot, ih]; omega
theorem tot_lt (l : List (Nat × Int)) (h : wide l) : tot l ≤ l.length * 10 ^ 24 := by
  induction l with
  | nil => simp [tot]
  | cons q l ih =>
    have h1 := gK_lt q.1 q.2 (h q (by simp)).1 (h q (by simp)).2.2
    have h2 := ih (fun p hp => h p (by simp [hp]))
    simp only [tot, List.length_cons]
    omega
def SumRel (w : World) (a : Nat) (A : Option Addr) (l : List (Nat × Int)) (i : Value) (wr : World) : Prop :=
  ∃ (k : Nat) (x : Value), k ≤ l.length ∧ i = .int .i64 k ∧ IsNk w.heap.size wr x (a + tot (l.take k)) ∧ wr.heap[w.heap.size]? = some (.cells #[x] 31 (0, 0)) ∧ wr.heap[w.heap.size + 1]? = some (.cells #[.slice none 0 0] 31 (0, 0)) ∧ Steps wr A l ∧ Below w.heap.size w wr
set_option maxHeartbeats 2000000 in
set_option maxRecDepth 100000 in
theorem C_sum {w : World} {u : Value} {a : Nat} {A : Option Addr} {c : Nat} {l : List (Nat × Int)} (ha : IsK w u a 30) (hl : Steps w A l) (hw : wide l) (h12 : l.length ≤ 12) :
    Calls Try.prog 36 #[.agg #[u], .slice A l.length c] w fun e w' => ∃ x, e = .returned (.agg #[x]) ∧ IsK w' x (a + tot l) 60 ∧ Below w.heap.size w w' := by
  have hu31 := Try.underlying31
  go_enter Try.func36, Try.ntmps36
  go_wp2
  have hn : (w.alloc (.cells #[u] 31)).heap.size = w.heap.size + 1 := by simp
  have hb0 : Below w.heap.size w ((w.alloc (.cells #[u] 31)).alloc (.cells #[.slice none 0 0] 31)) := below_alloc (below_alloc (Below.refl _ _) _) _
  go_loopw [9] (fun i wr => SumRel w a A l i wr) (fun i _ => l.length - (intOf i).toNat)
  case atStart =>
    refine ⟨0, u, Nat.zero_le _, rfl, ?_, ?_, ?_, hl.below hb0, hb0⟩
    · simpa [tot] using ha.1.nk.below hb0
    · rw [Below.heap_alloc _ _ _ (by simp)]; exact heap_alloc_new _ _
    · rw [← hn]; exact heap_alloc_new _ _
  case round =>
    obtain ⟨k, x, hk, rfl, hx, hB0, hB1, hst, hb⟩ := hrel
    by_cases hlt : k < l.length
    · obtain ⟨ad, rfl, had, h1, h2⟩ := hst k hlt
      have hlti : (k : Int) < (l.length : Int) := by omega
      obtain ⟨hp, hn0, hn1⟩ := hw l[k] (List.getElem_mem hlt)
      have htk : l.take (k + 1) = l.take k ++ [l[k]] := by rw [List.take_add_one, List.getElem?_eq_getElem hlt]; rfl
      have htot := tot_lt (l.take k) (fun q hq => hw q (List.mem_of_mem_take hq))
      have hlen : (l.take k).length ≤ 12 := by rw [List.length_take]; omega
      have hK : IsK wr x (a + tot (l.take k)) 50 := ⟨hx.isN, by have := ha.2; omega⟩
      have HTK := Lib.hid htk
      generalize l[k] = q at h1 h2 hp hn0 hn1 HTK
      obtain ⟨p, n⟩ := q
      simp only at h1 h2 hp hn0 hn1
      obtain ⟨s0, hs0⟩ : ∃ s0, s0 = a + tot (l.take k) := ⟨_, rfl⟩
      rw [← hs0] at hK hx
      have HS0 := Lib.hid hs0
      clear htot hlen htk hs0
      go_wp2
      obtain ⟨W, hW⟩ : ∃ W, W = wr.alloc (.cells #[.int .u64 p, .int .i64 n] 53) := ⟨_, rfl⟩
      rw [← hW]
      have b1 : w.heap.size + 1 < wr.heap.size := (Array.getElem?_eq_some_iff.1 hB1).1
      have hWb : Below wr.heap.size wr W := by subst hW; exact below_alloc (Below.refl _ _) _
      have sW : W.heap.size = wr.heap.size + 1 := by subst hW; simp
      have e0 : W.heap[wr.heap.size]? = some (.cells #[.int .u64 p, .int .i64 n] 53 (0, 0)) := by subst hW; exact heap_alloc_new _ _
      have d0 : W.cell? ⟨w.heap.size, 0, none⟩ = some x := by rw [hWb.cell (p := ⟨w.heap.size, 0, none⟩) (show w.heap.size < wr.heap.size by omega)]; simp [World.cell?, hB0]
      have dB : W.heap[w.heap.size]? = some (.cells #[x] 31 (0, 0)) := (hWb.block _ (by omega)).trans hB0
      have e1 : W.cell? ⟨wr.heap.size, 0, none⟩ = some (.int .u64 p) := by simp [World.cell?, e0]
      have e2 : W.cell? ⟨wr.heap.size, 1, none⟩ = some (.int .i64 n) := by simp [World.cell?, e0]
      have hKW : IsK W.drew x s0 50 := (hK.below hWb).below (Below.refl _ _).drew
      have dC : ∀ W1, Below W.drew.heap.size W.drew W1 → W1.heap[w.heap.size]? = some (.cells #[x] 31 (0, 0)) ∧ W1.cell? ⟨w.heap.size, 0, none⟩ = some x ∧ W1.frozen? ⟨w.heap.size, 0, none⟩ = false := by
        intro W1 h
        have e : W1.heap[w.heap.size]? = some (.cells #[x] 31 (0, 0)) := (h.block _ (show w.heap.size < W.heap.size by omega)).trans dB
        exact ⟨e, by simp [World.cell?, e], by simp [World.frozen?, e]⟩
      have hstW : Steps W.drew (some ad) l := (hst.below hWb).below (Below.refl _ _).drew
      have hB1W : W.heap[w.heap.size + 1]? = some (.cells #[.slice none 0 0] 31 (0, 0)) := (hWb.block _ b1).trans hB1
      have hbW : Below w.heap.size w W := hb.trans (hWb.mono (by omega))
      have hs0 := HS0.out
      have hs0' : s0 + gK p n = a + tot (l.take (k + 1)) := by rw [HTK.out, tot_snoc, hs0]; exact Nat.add_assoc _ _ _
      have hadl : ad.block < w.heap.size := by
        obtain ⟨ad', e, h, _⟩ := hl k hlt
        injection e with e
        subst e
        exact h
      have hfin : ∀ W1 W2 y, Below W.drew.heap.size W.drew W1 → Below W1.heap.size W1 W2 → IsNF W1.heap.size W2 y (s0 + gK p n) → SumRel w a (some ad) l (.int .i64 ((k : Int) + 1)) (W2.setCell ⟨w.heap.size, 0, none⟩ y) := by
        intro W1 W2 y h h' hy
        have hs1 := h.size
        have hd : W.drew.heap.size = W.heap.size := rfl
        have h2 := h.trans (h'.mono hs1)
        have e := (dC W2 h2).1
        have hS : Steps W2 (some ad) l := hstW.below h2
        refine ⟨k + 1, y, by omega, by simp, ?_, ?_, ?_, ?_, ?_⟩
        · rw [← hs0']; exact (hy.nk (show w.heap.size + 1 < W1.heap.size by omega)).set (.inl rfl) _
        · simp [World.setCell, Array.getElem?_modify, e]
        · rw [Below.heap_setCell _ _ _ _ (by simp)]; exact (h2.block _ (show w.heap.size + 1 < W.heap.size by omega)).trans hB1W
        · intro i hi
          obtain ⟨ad', e, g, g1, g2⟩ := hS i hi
          injection e with e
          subst e
          exact ⟨ad, rfl, by simpa [World.setCell] using g, (World.cell?_setCell_other _ _ _ _ (by intro e; have e := congrArg Addr.block e; simp [add_block] at e; omega)).trans g1, (World.cell?_setCell_other _ _ _ _ (by intro e; have := congrArg Addr.block e; simp [add_block] at this; omega)).trans g2⟩
        · exact ((hbW.trans (Below.refl _ _).drew).trans (h2.mono (by omega))).setCell (p := ⟨w.heap.size, 0, none⟩) (Nat.le_refl _) _
      clear h1 h2 hst hK hx hB0 hB1 hl ha hb0 hW e0 hWb hs0 hs0' hstW hB1W
      go_region_with ((first
        | (go_at_call 25; ((with_reducible refine (C_gain _ p n hp hn0 hn1).mono ?_); rintro e w1 ⟨x1, rfl, hx1, hb1⟩; obtain ⟨_, q1, q2⟩ := dC w1 hb1))
        | (go_at_call 23; ((with_reducible refine (K_addF (hKW.below hb1) hx1 (by omega) (by omega)).mono ?_); rintro e w2 ⟨x2, rfl, hx2, hb2⟩; have hb12 := hb1.trans (hb2.mono hb1.size); obtain ⟨_, q3, q4⟩ := dC w2 hb12; obtain ⟨A2, c2, rfl⟩ := hx2.isN.slice))))
      all_goals
        go_wp2
        go_roundw
        case rel => exact hfin _ _ _ hb1 hb2 hx2
        case measure => simp [intOf]; omega
    · obtain rfl : k = l.length := by omega
      rw [List.take_length] at hx
      have htot := tot_lt l hw
      have d0 : wr.cell? ⟨w.heap.size, 0, none⟩ = some x := by simp [World.cell?, hB0]
      have d1 : wr.cell? ⟨w.heap.size + 1, 0, none⟩ = some (.slice none 0 0) := by simp [World.cell?, hB1]
      have g1 : wr.frozen? ⟨w.heap.size + 1, 0, none⟩ = false := by simp [World.frozen?, hB1]
      obtain ⟨A2, c2, rfl⟩ := hx.isN.slice
      have hK := ha.2
      go_wp2
      refine bodyPost_ret (v := .agg #[.slice A2 (N (a + tot l)).length c2]) (by simp [results, Try.results36, go_sem, World.setCell, World.cell?, Array.getElem?_modify, hB1]) rfl ⟨_, rfl, ⟨(hx.set (.inr rfl) _).isN, by omega⟩, hb.setCell (p := ⟨w.heap.size + 1, 0, none⟩) (by simp) _⟩
end Go.Proofs.Ytclmdidgioggdaa.Num
