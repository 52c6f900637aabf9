/- Table.Quorum: the walk. -/
import Derived.Test.YtgkiehefneamcaaTab
import Derived.Test.YtgkiehefneamcaaFix3
namespace Go.Proofs.Ytgkiehefneamcaa.Cod
open Go.RowKit
/-- the powers of those who sign -/
def mark (T : List Int) (a : List Int) : List Int := (List.range 64).map fun (m : Nat) => if (m : Int) ∈ a then T.getD m 0 else 0
theorem mark_len (T a : List Int) : (mark T a).length = 64 := by simp [mark]
theorem mark_pows {T : List Int} (hT : Pows T) (a : List Int) : Pows (mark T a) := by
  refine ⟨mark_len T a, ?_⟩
  intro x hx
  obtain ⟨m, hm, rfl⟩ := List.mem_map.1 hx
  have hm : m < T.length := by have := hT.1; simpa [this] using hm
  have := hT.2 T[m] (List.getElem_mem hm)
  have hg : T.getD m 0 = T[m] := by simp [List.getD, hm]
  simp only [hg]
  split <;> omega
theorem mark_get (T a : List Int) (j : Nat) (h : j < 64) : (mark T a)[j]? = some (if (j : Int) ∈ a then T.getD j 0 else 0) := by
  unfold mark
  rw [List.getElem?_map, List.getElem?_range h]
  rfl
theorem mark_nil (T : List Int) : mark T [] = List.replicate 64 0 := by
  apply List.ext_getElem?
  intro j
  by_cases h : j < 64
  · rw [mark_get _ _ _ h, List.getElem?_replicate_of_lt h]; simp
  · rw [List.getElem?_eq_none (by rw [mark_len]; omega), List.getElem?_eq_none (by rw [List.length_replicate]; omega)]
theorem nc_rep (n : Nat) : nc (List.replicate n 0) = Array.replicate n (.int .i64 0) := by simp [nc]
theorem mark_none (T a : List Int) (m : Int) (h : ¬ pw T m > 0) (hT : Pows T) : mark T (a ++ [m]) = mark T a := by
  apply List.ext_getElem?
  intro j
  by_cases hj : j < 64
  · rw [mark_get _ _ _ hj, mark_get _ _ _ hj]
    by_cases e : (j : Int) = m
    · subst e
      have hp : pw T j = T.getD j 0 := by unfold pw; rw [if_pos (by omega)]; rfl
      rw [hp] at h
      have hjT : j < T.length := by have := hT.1; omega
      have h2 := hT.2 T[j] (List.getElem_mem hjT)
      have hg : T.getD j 0 = T[j] := by simp [List.getD, hjT]
      have h0 : T.getD j 0 = 0 := by omega
      rw [h0]; simp
    · simp [e]
  · rw [List.getElem?_eq_none (by rw [mark_len]; omega), List.getElem?_eq_none (by rw [mark_len]; omega)]
theorem mark_some (T a : List Int) (m : Nat) (hm : m < 64) : mark T (a ++ [(m : Int)]) = (mark T a).set m (T.getD m 0) := by
  apply List.ext_getElem?
  intro j
  by_cases hj : j < 64
  · rw [mark_get _ _ _ hj, List.getElem?_set, mark_get _ _ _ hj]
    by_cases e : m = j
    · subst e
      simp [mark_len, hm]
    · have e' : ¬ (j : Int) = (m : Int) := by omega
      rw [if_neg e]
      simp [e']
  · rw [List.getElem?_eq_none (by rw [mark_len]; omega), List.getElem?_eq_none (by rw [List.length_set, mark_len]; omega)]
def IntsAt (w : World) (A : Option Addr) (l : List Int) : Prop := ∀ i (h : i < l.length), ∃ ad, A = some ad ∧ ad.block < w.heap.size ∧ w.cell? (ad.add i) = some (.int .i64 l[i])
theorem addb (a : Addr) (n : Nat) : (a.add n).block = a.block := by unfold Addr.add; split <;> rfl
theorem IntsAt.below {w w1 : World} {A : Option Addr} {l : List Int} (h : IntsAt w A l) (hb : Below w.heap.size w w1) : IntsAt w1 A l := by
  intro i hi
  obtain ⟨ad, e, hl, h1⟩ := h i hi
  exact ⟨ad, e, Nat.lt_of_lt_of_le hl hb.size, (hb.cell (by rw [addb]; exact hl)).trans h1⟩
def quo (T a : List Int) : Bool := decide (3 * isum (mark T a) > 2 * isum T)
def QRel (w : World) (T a : List Int) (i : Value) (wr : World) : Prop := ∃ k : Nat, k ≤ a.length ∧ i = .int .i64 k ∧ wr.heap[w.heap.size]? = some (.cells (nc T) 45 (0, 0)) ∧ wr.heap[w.heap.size + 1]? = some (.cells (nc (mark T (a.take k))) 45 (0, 0)) ∧ Below w.heap.size w wr
set_option maxHeartbeats 1600000 in
set_option maxRecDepth 100000 in
theorem C_quorum (T : List Int) (hT : Pows T) (A : Option Addr) (c : Nat) (a : List Int) (w : World) (ha : IntsAt w A a) (h63 : a.length ≤ 4611686018427387904) :
    Calls Try.prog 23 #[.agg (nc T), .slice A a.length c] w fun e w' => e = .returned (.bool (quo T a)) ∧ Below w.heap.size w w' := by
  have hs := nc_size T
  rw [hT.1] at hs
  have hinfo : (Try.prog.info? 45).map (·.size) = some (nc T).size := by rw [hs]; kernel_rfl
  have hP := fun m v => C_power T hT.1 m v
  have hZ : nc (mark T []) = Array.replicate 64 (.int .i64 0) := by rw [mark_nil]; exact nc_rep 64
  have hCT := fun v => C_total T hT v
  have hCM := fun v => C_total (mark T a) (mark_pows hT a) v
  have hiM : (Try.prog.info? 45).map (·.size) = some (nc (mark T a)).size := by rw [nc_size, mark_len]; kernel_rfl
  have hbT := isum_range T hT.2
  have hbM := isum_range (mark T a) (mark_pows hT a).2
  rw [hT.1] at hbT
  rw [mark_len] at hbM
  have HT := Lib.hid hT
  clear hT
  obtain ⟨C, eC⟩ : ∃ C, nc T = C := ⟨_, rfl⟩
  rw [eC] at hs hinfo
  simp only [eC] at hP hCT
  rw [eC]
  have HC := Lib.hid eC
  clear eC
  go_enter Try.func23, Try.ntmps23
  go_wp2
  go_loopw [11] (fun i wr => QRel w T a i wr) (fun i _ => a.length - (intOf i).toNat)
  case atStart =>
    refine ⟨0, by omega, rfl, ?_, ?_, ((Below.refl _ _).alloc (Nat.le_refl _) _).alloc (by simp) _⟩
    · rw [HC.out]; exact heap_alloc2_old _ _ _
    · rw [List.take_zero, hZ]; exact heap_alloc2_new _ _ _
  case round =>
    obtain ⟨k, hk, rfl, hB0, hB1, hb⟩ := hrel
    rw [HC.out] at hB0
    by_cases hlt : k < a.length
    · obtain ⟨ad, rfl, hadl, hc0⟩ := ha k hlt
      have hc1 : wr.cell? (ad.add k) = some (.int .i64 a[k]) := (hb.cell (p := ad.add k) (by rw [addb]; exact hadl)).trans hc0
      have htk : a.take (k + 1) = a.take k ++ [a[k]] := by rw [List.take_add_one, List.getElem?_eq_getElem hlt]; rfl
      have hlti : (k : Int) < (a.length : Int) := by omega
      generalize a[k] = m at hc1 htk
      have HTK := Lib.hid htk
      have HB1 := Lib.hid hB1
      clear htk hc0 hB1 hCT hCM
      have hPm := hP m wr
      by_cases hp : pw T m > 0
      · obtain ⟨q, rfl, hq⟩ : ∃ q : Nat, m = q ∧ q < 64 := by
          unfold pw at hp
          by_cases h : 0 ≤ m ∧ m < 64
          · exact ⟨m.toNat, by omega, by omega⟩
          · rw [if_neg h] at hp; omega
        have hpq : pw T q = T.getD q 0 := by unfold pw; rw [if_pos (by omega)]; rfl
        obtain ⟨x, ex⟩ : ∃ x, pw T q = x := ⟨_, rfl⟩
        rw [ex] at hPm hp hpq
        have HPQ := Lib.hid hpq
        clear hpq
        go_wp2_with (first
          | (refine wpList_load_row (by rfl) 45 (.tmp 2) (by rfl) w.heap.size (by rfl) 45 C (0, 0) _ hB0 Try.underlying45 rfl hinfo ?_)
          | (go_at_call 25; ((with_reducible refine hPm.mono ?_); rintro e w1 ⟨rfl, f1⟩; have q1 : w1.heap[w.heap.size + 1]? = _ := (f1.block _ (Array.getElem?_eq_some_iff.1 HB1.out).1).trans HB1.out; have q2 := frozen_of_row w1 _ q _ _ q1; have q3 := (cell_of_row w1 _ q _ _ _ q1).trans (nc_getD _ q (by rw [mark_len]; exact hq)))))
        go_roundw
        case rel =>
          refine ⟨k + 1, by omega, by go_num, ?_, ?_, ?_⟩
          · rw [heap_setCell_other _ _ _ _ (by simp), HC.out]; exact (f1.block _ (Array.getElem?_eq_some_iff.1 hB0).1).trans hB0
          · rw [HTK.out, mark_some _ _ _ hq, ← HPQ.out, heap_setCell_same _ _ _ _ _ _ q1, nc_set]
          · exact (hb.trans (f1.mono hb.size)).setCell (p := ⟨w.heap.size + 1, q, none⟩) (by simp) _
        case measure => simp [intOf]; omega
      · obtain ⟨x, ex⟩ : ∃ x, pw T m = x := ⟨_, rfl⟩
        have hmk := mark_none T (a.take k) m hp HT.out
        rw [ex] at hPm hp
        have HMK := Lib.hid hmk
        clear hmk
        go_wp2_with (first
          | (refine wpList_load_row (by rfl) 45 (.tmp 2) (by rfl) w.heap.size (by rfl) 45 C (0, 0) _ hB0 Try.underlying45 rfl hinfo ?_)
          | (go_at_call 25; ((with_reducible refine hPm.mono ?_); rintro e w1 ⟨rfl, f1⟩)))
        go_roundw
        case rel =>
          refine ⟨k + 1, by omega, by go_num, ?_, ?_, hb.trans (f1.mono hb.size)⟩
          · rw [HC.out]; exact (f1.block _ (Array.getElem?_eq_some_iff.1 hB0).1).trans hB0
          · rw [HTK.out, HMK.out]; exact (f1.block _ (Array.getElem?_eq_some_iff.1 HB1.out).1).trans HB1.out
        case measure => simp [intOf]; omega
    · obtain rfl : k = a.length := by omega
      rw [List.take_length] at hB1
      have hw1 : IntKind.i64.wrap (3 * isum (mark T a)) = 3 * isum (mark T a) := by rw [IntKind.wrap_i64]; omega
      have hw2 : IntKind.i64.wrap (2 * isum T) = 2 * isum T := by rw [IntKind.wrap_i64]; omega
      have hquo : quo T a = decide (3 * isum (mark T a) > 2 * isum T) := rfl
      generalize isum (mark T a) = sM at hCM hbM hw1 hquo
      generalize isum T = sT at hCT hbT hw2 hquo
      generalize nc (mark T a) = M at hCM hiM hB1
      have HQ := Lib.hid hquo
      clear hZ hquo hP
      have HCT := Lib.hid hCT
      have HCM := Lib.hid hCM
      clear hCT hCM
      go_wp2
      refine region_fix3 [1, 4] (fun k _ _ => if k = 0 then .int .i64 sM else .int .i64 sT) (fun _ W W' => Below W.heap.size W W') (by kernel_rfl) (by kernel_rfl) (fun _ W => ⟨W, Below.refl _ _⟩) fun g g0 hG => ?_
      have c0 : Below (g 0).heap.size (g 0) (g 1) := hG 0 (by decide)
      have c1 : Below (g 1).heap.size (g 1) (g 2) := hG 1 (by decide)
      clear hG
      have b0 : Below wr.heap.size wr (g 0) := by rw [g0]; exact (Below.refl _ _).drew
      have b1 := b0.trans (c0.mono b0.size)
      have b2 := b1.trans (c1.mono b1.size)
      have G0 := Lib.hid g0
      clear g0
      have s0 := (Array.getElem?_eq_some_iff.1 hB0).1
      have s1 := (Array.getElem?_eq_some_iff.1 hB1).1
      refine fix3_mid (.agg M) 0 0 (by kernel_rfl) rfl (fun J s hs1 hs2 hJ => ?_) ?_
      · obtain rfl : s = 0 := by omega
        exact wp_load_row 45 (.tmp 5) rfl (w.heap.size + 1) rfl 45 M (0, 0) _ ((b0.block _ s1).trans hB1) Try.underlying45 rfl hiM (hJ _ rfl)
      intro J hJ
      go_simp
      refine hJ _ ?_
      clear hJ J
      refine fix3_eff 0 (.int .i64 sM) rfl (by kernel_rfl) rfl (fun J hJ => ?_) ?_
      · go_simp
        go_at_call 37
        refine (HCM.out _).mono ?_
        rintro e W1 ⟨rfl, g1⟩
        exact hJ _ g1
      intro J hJ
      go_simp
      refine hJ _ ?_
      clear hJ J
      refine fix3_step (.int .i64 (3 * sM)) (by kernel_rfl) rfl (fun J s _ _ hJ => ?_) ?_
      · go_simp
        exact hJ _ rfl
      intro J hJ
      go_simp
      refine hJ _ ?_
      clear hJ J
      refine fix3_mid (.agg C) 0 1 (by kernel_rfl) rfl (fun J s hs1 hs2 hJ => ?_) ?_
      · have hc : (g s).heap[w.heap.size]? = some (.cells C 45 (0, 0)) := by
          have : s = 0 ∨ s = 1 := by omega
          rcases this with rfl | rfl
          · exact (b0.block _ s0).trans hB0
          · exact (b1.block _ s0).trans hB0
        exact wp_load_row 45 (.tmp 2) rfl w.heap.size rfl 45 C (0, 0) _ hc Try.underlying45 rfl hinfo (hJ _ rfl)
      intro J hJ
      go_simp
      refine hJ _ ?_
      clear hJ J
      refine fix3_eff 1 (.int .i64 sT) rfl (by kernel_rfl) rfl (fun J hJ => ?_) ?_
      · go_simp
        go_at_call 37
        refine (HCT.out _).mono ?_
        rintro e W1 ⟨rfl, g1⟩
        exact hJ _ g1
      intro J hJ
      go_simp
      refine hJ _ ?_
      clear hJ J
      refine fix3_one 2 (by kernel_rfl) rfl (fun J hJ => ?_)
      go_simp
      refine hJ _ ?_
      clear hJ J
      refine fix3_step (.bool (decide (2 * sT < 3 * sM))) (by kernel_rfl) rfl (fun J s _ _ hJ => ?_) ?_
      · go_simp
        exact hJ _ rfl
      intro J hJ
      go_simp
      refine hJ _ ?_
      clear hJ J
      refine fix3_step (.bool (decide (2 * sT < 3 * sM))) (by kernel_rfl) rfl (fun J s _ _ hJ => ?_) ?_
      · go_simp
        exact hJ _ rfl
      intro J hJ
      go_simp
      refine hJ _ ?_
      clear hJ J
      refine fix3_nil ?_
      go_wp2
      go_ret
      exact ⟨by rw [HQ.out]; rfl, hb.trans (b2.mono hb.size)⟩
end Go.Proofs.Ytgkiehefneamcaa.Cod
