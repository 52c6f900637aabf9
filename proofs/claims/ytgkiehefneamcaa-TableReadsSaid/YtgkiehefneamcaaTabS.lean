/- table.Parse: the walk. -/
import Derived.Test.YtgkiehefneamcaaTabP
namespace Go.Proofs.Ytgkiehefneamcaa.Cod
open Go.RowKit
theorem IsIn.at {b : Nat} {st : St} {w w' : World} (h : IsIn b st w) (e : w'.heap[b]? = w.heap[b]?) : IsIn b st w' := by
  obtain ⟨s, h1, h2⟩ := h
  exact ⟨s, e.trans h1, h2⟩
theorem new_pows (x : List (Int × Int)) : Pows (new x).1 := by
  rcases new_cases x with ⟨_, h, h3⟩ | ⟨_, h⟩
  · rw [h]; exact rises_pows h3
  · rw [h]; exact zeros_pows
set_option maxHeartbeats 4000000 in
set_option maxRecDepth 100000 in
theorem C_tparse (s : ByteArray) (hs : s.size ≤ 140737488351232) (w : World) :
    Calls Try.prog 29 #[.string s] w fun e w' => e = .returned (.tuple #[.agg (nc (tparse (bl s)).1), .int .i64 (tparse (bl s)).2]) ∧ Below w.heap.size w w' := by
  obtain ⟨i0, hi, hz0, hz1, hz2⟩ := info_parts infoE
  have hZs : (nc zeros).size = 64 := by rw [nc_zeros]; simp
  have hZ1 := nc_one zeros
  have hZi : (Try.prog.info? 45).map (·.size) = some (nc zeros).size := by rw [hZs]; kernel_rfl
  have hZe := nc_zeros
  have hn64 := inNum_big (m := 64) (by omega) (bl s, 0)
  have htp : tparse (bl s) = if inEnd (rd (inNum 64 (bl s, 0)).1 (inNum 64 (bl s, 0)).2).2 ≠ 0 then (zeros, (inEnd (rd (inNum 64 (bl s, 0)).1 (inNum 64 (bl s, 0)).2).2 : Int)) else new (rd (inNum 64 (bl s, 0)).1 (inNum 64 (bl s, 0)).2).1 := rfl
  have hC0 := fun b v (h : IsIn b (bl s, 0) v) => C_inum 64 h
  generalize inNum 64 (bl s, 0) = n0 at hC0 hn64 htp
  obtain ⟨n, st⟩ := n0
  simp only at hC0 hn64 htp
  obtain ⟨R, hR⟩ : ∃ R, tparse (bl s) = R := ⟨_, rfl⟩
  rw [hR] at htp ⊢
  have HTP := Lib.hid htp
  clear hR htp
  have hb0 : ∀ o1 : Obj, Below w.heap.size w (w.alloc o1) := fun o1 => (Below.refl _ _).alloc (Nat.le_refl _) _
  have eS : ∀ o : Obj, (w.alloc o).heap.size = w.heap.size + 1 := fun o => by simp
  have ES := Lib.hid eS
  clear eS
  go_enter Try.func29, Try.ntmps29
  go_wp2_with (first
    | (go_at_call 42; ((with_reducible refine (C_of s _ hs).mono ?_); rintro e w1 ⟨rfl, hI, f1⟩; rw [ES.out] at hI; have r1' := (f1.block w.heap.size (by simp)).trans (heap_alloc_new w _); have g1 := (hb0 _).trans (f1.mono (hb0 _).size); have r1 : w1.heap[w.heap.size]? = some (.cells (nc zeros) 45 (0, 0)) := (by rw [hZe]; exact r1'); clear f1 r1'))
    | (go_at_call 43; ((with_reducible refine (hC0 _ _ hI).mono ?_); rintro e w2 ⟨rfl, hI2, f2⟩)))
  have lt1 := hI.lt
  have r2 : w2.heap[w.heap.size]? = some (.cells (nc zeros) 45 (0, 0)) := (f2.block _ (by omega) (by intro e; injection e with e; omega)).trans r1
  have g2 := g1.trans (f2.below (B := w.heap.size) (by omega) (by omega))
  clear f2 hI r1 g1 hC0
  go_loopw [5, 11] (fun v i wr => ∃ k : Nat, k ≤ n ∧ i = .int .i64 k ∧ IsIn (w.heap.size + 1) (rd k st).2 wr ∧ wr.ownsRow (w.heap.size + 2) 81 2 v (rd k st).1.length (ec (rd k st).1) ∧ wr.heap[w.heap.size]? = some (.cells (nc zeros) 45 (0, 0)) ∧ Below w.heap.size w wr) (fun _ i _ => n - (intOf i).toNat)
  case atStart => exact ⟨0, by omega, rfl, hI2, World.ownsRow_nil _ _ _ _, r2, g2⟩
  case round =>
    obtain ⟨k, hk, rfl, hI, hown, hr, hb⟩ := hrel
    clear r2 g2 hI2
    have lt1 := hI.lt
    by_cases hlt : k < n
    · have hlti : (k : Int) < (n : Int) := by omega
      have hsucc : rd (k + 1) st = ((rd k st).1 ++ [(((inNum M40 (rd k st).2).1 : Int), ((inNum M40 (inNum M40 (rd k st).2).2).1 : Int))], (inNum M40 (inNum M40 (rd k st).2).2).2) := rfl
      have hlen := rd_len k st
      generalize rd k st = r at hI hown hsucc hlen
      obtain ⟨q, s0⟩ := r
      simp only at hI hown hsucc hlen
      have hC1 := fun v (h : IsIn (w.heap.size + 1) s0 v) => C_inum M40 h
      generalize inNum M40 s0 = a at hC1 hsucc
      obtain ⟨a, s1⟩ := a
      simp only at hC1 hsucc
      have hC2 := fun v (h : IsIn (w.heap.size + 1) s1 v) => C_inum M40 h
      generalize inNum M40 s1 = b at hC2 hsucc
      obtain ⟨b, s2⟩ := b
      simp only at hC2 hsucc
      unfold M40 at hC1 hC2
      have HSUCC := Lib.hid hsucc
      clear hsucc
      have hlo := hown.lt
      have HLO := Lib.hid hlo
      clear hlo
      go_wp2_with (first
        | (go_at_call 43; ((with_reducible refine (hC1 _ hI).mono ?_); rintro e w3 ⟨rfl, hI3, f3⟩; have hown3 := hown.kept f3 (by rcases hv : u5.ownBlock with _ | g; exact .inl rfl; exact .inr (by intro e; injection e with e; have := (HLO.out g hv).1; omega)); have lt3 := hI3.lt))
        | (go_at_call 43; ((with_reducible refine (hC2 _ hI3).mono ?_); rintro e w4 ⟨rfl, hI4, f4⟩; have hown4 := hown3.kept f4 (by rcases hv : u5.ownBlock with _ | g; exact .inl rfl; exact .inr (by intro e; injection e with e; have := (HLO.out g hv).1; omega)); have lt4 := hI4.lt))
        | (at_builtin; refine wpList_append_own _ rfl _ _ 49 rfl (w.heap.size + 2) 81 i0 (.agg #[.int .i64 0, .int .i64 0]) 2 16 Try.underlying49 hi hz0 hz1 hz2 rfl (by decide) _ _ _ rfl (hown4.alloc _) ⟨w4.heap.size, 0, none⟩ 1 1 [.int .i64 a, .int .i64 b] rfl ?c1 ?c2 ?c3 ?c4 ?c5 ?c6 ?_))
      case c1 => rfl
      case c2 =>
        intro j u hu
        rw [Addr.add_mid, Nat.zero_add, cell_of_row _ _ j _ _ _ (heap_alloc_new w4 _)]
        simpa using hu
      case c3 =>
        intro u hu
        simp only [List.mem_cons, List.not_mem_nil, or_false] at hu
        rcases hu with rfl | rfl <;> rfl
      case c4 => unfold maxLen; omega
      case c5 => omega
      case c6 => simp; omega
      intro v' w5 hown5 hgrow _
      have hb3 := hb.trans (f3.below (B := w.heap.size) (by omega) (by omega))
      have hb4 := hb3.trans (f4.below (B := w.heap.size) (by omega) (by omega))
      have hb5 := (hb4.alloc hb4.size (.cells #[.int .i64 a, .int .i64 b] 81)).grown hgrow (by simp; omega) (fun k hk => by have := (HLO.out k hk).1; omega)
      have hr3 := (f3.block w.heap.size (by omega) (by intro e; injection e with e; omega)).trans hr
      have hr4 := (f4.block w.heap.size (by omega) (by intro e; injection e with e; omega)).trans hr3
      have hal := (Below.refl w4.heap.size w4).alloc (Nat.le_refl _) (.cells #[.int .i64 a, .int .i64 b] 81)
      have hr5 := (hgrow.block w.heap.size (by simp; omega) (fun e => by have := (HLO.out _ e.symm).1; omega)).trans ((hal.block w.heap.size (by omega)).trans hr4)
      have hI5 : IsIn (w.heap.size + 1) s2 w5 := hI4.at ((hgrow.block (w.heap.size + 1) (by simp; omega) (fun e => by have := (HLO.out _ e.symm).1; omega)).trans (hal.block (w.heap.size + 1) (by omega)))
      clear hr3 hr4 hal hb3 hb4 hgrow
      go_wp2
      go_roundw
      case rel =>
        refine ⟨k + 1, by omega, by go_num, ?_, ?_, hr5, hb5⟩
        · rw [HSUCC.out]; exact hI5
        · rw [HSUCC.out, ec_snoc, List.length_append, hlen]; exact hown5
      case measure => simp [intOf]; omega
    · obtain rfl : k = n := by omega
      have hlen := rd_len k st
      have hTP := HTP.out
      have hend := C_end hI
      have hNw := fun A c v hv => C_new A c (rd k st).1 v hv (by unfold maxLen; omega)
      have hNp := new_pows (rd k st).1
      generalize rd k st = r at hend hTP hown hNw hNp
      obtain ⟨x, s1⟩ := r
      simp only at hend hTP hown hNw hNp
      generalize inEnd s1 = z at hend hTP
      obtain ⟨A', c', rfl, hE⟩ := ents_of_own hown
      clear HTP hown hI
      by_cases hz : z = 0
      · subst hz
        rw [if_neg (by omega)] at hTP
        subst hTP
        obtain ⟨⟨R, rz⟩, hRn⟩ : ∃ R, new x = R := ⟨_, rfl⟩
        simp only [hRn] at hNw hNp
        have hRs := nc_size64 hNp
        have hRi := info64 hNp
        have hR1 := nc_one R
        obtain ⟨Z, hZn⟩ : ∃ Z, nc R = Z := ⟨_, rfl⟩
        simp only [hZn] at hNw hRs hRi hR1
        have HRN := Lib.hid hRn
        have HZN := Lib.hid hZn
        clear hNp hRn hZn
        go_wp2_with (first
          | (go_at_call 44; ((with_reducible refine hend.mono ?_); rintro e w6 ⟨rfl, rfl⟩))
          | (go_at_call 21; ((with_reducible refine (hNw _ _ _ hE).mono ?_); rintro e w7 ⟨rfl, f7⟩; have r7 := (f7.block w.heap.size (by omega)).trans hr; have b7 := hb.trans (f7.mono (by omega))))
          | (refine wpList_store_row (by rfl) 45 (.tmp 2) (.tmp 30) (by rfl) w.heap.size Z (nc zeros) 45 (by rfl) (by rfl) r7 hRi (by rw [hZs, hRs]) hR1 ?_))
        refine bodyPost_ret (result_two rfl rfl rfl (run_loadVar_row _ w.heap.size 45 45 Z (0, 0) _ (setRow_heap _ _ _ _ _ _ r7) Try.underlying45 rfl hRi)) rfl ⟨by rw [HRN.out]; simp only [HZN.out]; rfl, setRow_below b7 _ _ (by omega)⟩
      · rw [if_pos hz] at hTP
        subst hTP
        have hz0 : ¬ (z : Int) = 0 := by omega
        clear hNw hNp
        go_wp2_with (first
          | (go_at_call 44; ((with_reducible refine hend.mono ?_); rintro e w6 ⟨rfl, rfl⟩))
          | (refine wpList_store_row (by rfl) 45 (.tmp 2) (.tmp 26) (by rfl) w.heap.size (nc zeros) (nc zeros) 45 (by rfl) (by simp only [hZe]; rfl) hr hZi rfl hZ1 ?_))
        refine bodyPost_ret (result_two rfl rfl rfl (run_loadVar_row _ w.heap.size 45 45 (nc zeros) (0, 0) _ (setRow_heap _ _ _ _ _ _ hr) Try.underlying45 rfl hZi)) rfl ⟨rfl, setRow_below hb _ _ (by omega)⟩
end Go.Proofs.Ytgkiehefneamcaa.Cod
