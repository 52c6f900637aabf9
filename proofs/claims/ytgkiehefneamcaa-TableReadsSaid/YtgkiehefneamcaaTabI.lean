/- Table.Entries, Is: the walks. -/
import Derived.Test.YtgkiehefneamcaaTabA
import Derived.Test.YtgkiehefneamcaaTabL
namespace Go.Proofs.Ytgkiehefneamcaa.Cod
open Go.RowKit
def entsN (T : List Int) (k : Nat) : List (Int × Int) := (List.range k).filterMap fun (m : Nat) => if 0 < T.getD m 0 then some ((m : Int), T.getD m 0) else none
def ents (T : List Int) : List (Int × Int) := entsN T 64
theorem entsN_succ (T : List Int) (k : Nat) : entsN T (k + 1) = entsN T k ++ (if 0 < T.getD k 0 then [((k : Int), T.getD k 0)] else []) := by
  unfold entsN
  rw [List.range_succ, List.filterMap_append]
  congr 1
  by_cases h : 0 < T.getD k 0
  · rw [if_pos h, List.filterMap_cons, if_pos h]; rfl
  · rw [if_neg h, List.filterMap_cons, if_neg h]; rfl
theorem entsN_len (T : List Int) (k : Nat) : (entsN T k).length ≤ k := by
  induction k with
  | zero => simp [entsN]
  | succ k ih => rw [entsN_succ, List.length_append]; split <;> simp <;> omega
theorem entsN_congr {T U : List Int} {k : Nat} (h : ∀ j, j < k → T.getD j 0 = U.getD j 0) : entsN T k = entsN U k := by
  induction k with
  | zero => rfl
  | succ k ih => rw [entsN_succ, entsN_succ, ih (fun j hj => h j (by omega)), h k (by omega)]
theorem ents_set {x : List (Int × Int)} {n : Nat} (hn : n ≤ 64) (h : Rises n x) : ∀ k, n ≤ k → k ≤ 64 → entsN (setAll zeros x) k = x := by
  induction x using snocI generalizing n with
  | h0 =>
    intro k _ _
    have : ∀ k, entsN zeros k = [] := fun k => by
      induction k with
      | zero => rfl
      | succ k ih => rw [entsN_succ, ih, zeros_getD, if_neg (by omega)]; rfl
    exact this k
  | h1 x p ih =>
    obtain ⟨h1, h2, h3, h4, _⟩ := h.left
    have hr : Rises (p.1.toNat : Nat) x := by rwa [Int.toNat_of_nonneg h2]
    have hm : p.1.toNat < n := by omega
    have hl : p.1.toNat < (setAll zeros x).length := by rw [setAll_len, zeros_len]; omega
    rw [setAll_snoc]
    have key : ∀ d, p.1.toNat + 1 + d ≤ 64 → entsN ((setAll zeros x).set p.1.toNat p.2) (p.1.toNat + 1 + d) = x ++ [p] := by
      intro d
      induction d with
      | zero =>
        intro hd
        have e1 : entsN ((setAll zeros x).set p.1.toNat p.2) p.1.toNat = x := by
          rw [entsN_congr (U := setAll zeros x) (fun j hj => by rw [getD_set _ _ _ _ hl, if_neg (by omega)])]
          exact ih (by omega) hr _ (Nat.le_refl _) (by omega)
        rw [Nat.add_zero, entsN_succ, e1, getD_set _ _ _ _ hl, if_pos rfl, if_pos (by omega), Int.toNat_of_nonneg h2]
      | succ d ihd =>
        intro hd
        rw [← Nat.add_assoc, entsN_succ, ihd (by omega), getD_set _ _ _ _ hl, if_neg (show ¬ p.1.toNat + 1 + d = p.1.toNat by omega), set_high (n := p.1.toNat) (by omega) hr _ (by omega), if_neg (by omega), List.append_nil]
    intro k hk hk2
    obtain ⟨d, rfl⟩ : ∃ d, k = p.1.toNat + 1 + d := ⟨k - (p.1.toNat + 1), by omega⟩
    exact key d hk2
theorem ents_rises {x : List (Int × Int)} (h : Rises 64 x) : ents (setAll zeros x) = x := ents_set (n := 64) (Nat.le_refl _) h 64 (Nat.le_refl _) (Nat.le_refl _)
theorem ents_zeros : ents zeros = [] := by kernel_rfl
set_option maxHeartbeats 1600000 in
set_option maxRecDepth 100000 in
theorem C_entries2 (T : List Int) (hT : Pows T) (w : World) :
    Calls Try.prog 47 #[.agg (nc T)] w fun e w' => ∃ A' c', e = .returned (.slice A' (ents T).length c') ∧ w'.ownsRow w.heap.size 81 2 (.slice A' (ents T).length c') (ents T).length (ec (ents T)) ∧ Ents w' A' (ents T) ∧ Below w.heap.size w w' := by
  obtain ⟨i0, hi, hz0, hz1, hz2⟩ := info_parts infoE
  have hs := nc_size T
  rw [hT.1] at hs
  have hget : ∀ (k : Nat) (h : k < 64) (v : World), (Instr.index 43 (.agg (nc T)) (.int .i64 k)).run Try.prog v = .ok (.int .i64 (T.getD k 0)) v := fun k h v =>
    run_index_arr 43 3 64 (nc T) k _ (by kernel_rfl) (by kernel_rfl) (.inr (.inr (by kernel_rfl))) h (nc_getD T k (by have := hT.1; omega))
  have hinfo : (Try.prog.info? 43).map (·.size) = some (nc T).size := by rw [hs]; kernel_rfl
  clear hT
  generalize nc T = C at hs hinfo hget
  have HG := Lib.hid hget
  clear hget
  have hq : (w.alloc (.cells C 45)).heap[w.heap.size]? = some (.cells C 45 (0, 0)) := heap_alloc_new _ _
  go_enter Try.func47, Try.ntmps47
  go_wp2_with (refine wpList_load_row (by rfl) 43 (.tmp 6) (by rfl) w.heap.size (by rfl) 45 C (0, 0) _ hq Try.underlying43 rfl hinfo ?_)
  go_loopw [3, 8] (fun v i wr => ∃ k : Nat, k ≤ 64 ∧ i = .int .i64 k ∧ wr.ownsRow w.heap.size 81 2 v (entsN T k).length (ec (entsN T k)) ∧ Below w.heap.size w wr) (fun _ i _ => 64 - (intOf i).toNat)
  case atStart => exact ⟨0, by omega, rfl, World.ownsRow_nil _ _ _ _, (Below.refl _ _).alloc (Nat.le_refl _) _⟩
  case round =>
    obtain ⟨k, hk, rfl, hown, hb⟩ := hrel
    by_cases hlt : k < 64
    · have hg := HG.out k hlt
      have hlti : (k : Int) < 64 := by omega
      have hsc := entsN_succ T k
      have hln := entsN_len T k
      obtain ⟨x, hx⟩ : ∃ x, T.getD k 0 = x := ⟨_, rfl⟩
      simp only [hx] at hg
      rw [hx] at hsc
      generalize entsN T k = q at hown hsc hln
      have HSC := Lib.hid hsc
      clear hsc hx
      by_cases hx0 : 0 < x
      · rw [if_pos hx0] at HSC
        go_wp2_with (at_builtin; refine wpList_append_own _ rfl _ _ 49 rfl w.heap.size 81 i0 (.agg #[.int .i64 0, .int .i64 0]) 2 16 Try.underlying49 hi hz0 hz1 hz2 rfl (by decide) _ _ _ rfl (hown.alloc _) ⟨wr.heap.size, 0, none⟩ 1 1 [.int .i64 k, .int .i64 x] rfl ?c1 ?c2 ?c3 ?c4 ?c5 ?c6 ?_)
        case c1 => rfl
        case c2 =>
          intro j u hu
          rw [Addr.add_mid, Nat.zero_add, cell_of_row _ _ j _ _ _ (heap_alloc_new wr _)]
          simpa using hu
        case c3 =>
          intro u hu
          simp only [List.mem_cons, List.not_mem_nil, or_false] at hu
          rcases hu with rfl | rfl <;> rfl
        case c4 => unfold maxLen; omega
        case c5 => omega
        case c6 => have := hb.size; simp; omega
        intro v' w1 hown' hgrow _
        go_wp2
        go_roundw
        case rel =>
          refine ⟨k + 1, by omega, by go_num, ?_, ?_⟩
          · rw [HSC.out, ec_snoc, List.length_append]; exact hown'
          · exact (hb.alloc hb.size _).grown hgrow (by have := hb.size; simp; omega) (fun k hk => (hown.lt k hk).1)
        case measure => simp [intOf]; omega
      · rw [if_neg hx0] at HSC
        go_wp2
        go_roundw
        case rel =>
          refine ⟨k + 1, by omega, by go_num, ?_, hb⟩
          rw [HSC.out, List.append_nil]; exact hown
        case measure => simp [intOf]; omega
    · obtain rfl : k = 64 := by omega
      obtain ⟨A', c', rfl, hE⟩ := ents_of_own hown
      have hln := entsN_len T 64
      go_wp2
      go_ret
      exact ⟨A', c', rfl, hown, hE, hb⟩
theorem C_entries (T : List Int) (hT : Pows T) (w : World) :
    Calls Try.prog 47 #[.agg (nc T)] w fun e w' => ∃ A' c', e = .returned (.slice A' (ents T).length c') ∧ Ents w' A' (ents T) ∧ Below w.heap.size w w' :=
  (C_entries2 T hT w).mono fun _ _ ⟨A', c', h1, _, h2, h3⟩ => ⟨A', c', h1, h2, h3⟩
end Go.Proofs.Ytgkiehefneamcaa.Cod
