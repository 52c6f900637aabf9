/- TableReads: the walk. -/
import Derived.Test.YtgkiehefneamcaaTabU
import Derived.Test.YtgkiehefneamcaaTabS
import Derived.Test.YtgkiehefneamcaaTabJ
import Derived.Test.YtgkiehefneamcaaRef
namespace Go.Proofs.Ytgkiehefneamcaa.Cod
open Go.RowKit
set_option maxHeartbeats 4000000 in
set_option maxRecDepth 100000 in
theorem W_TableReads (s0 : ByteArray) (hs0 : s0.size ≤ 140737488351232) (w : World) :
    Calls Try.prog 8 #[.string s0] w fun e w' => e = .returned (.bool true) ∧ Below w.heap.size w w' := by
  have hcut := fun v => C_cut s0 300 (by omega) (by omega) hs0 v
  rw [show (300 : Int).toNat = 300 from rfl] at hcut
  obtain ⟨s, es⟩ : ∃ s, S ((bl s0).take 300) = s := ⟨_, rfl⟩
  simp only [es] at hcut
  have hs : s.size ≤ 300 := by rw [← es, S_size, List.length_take]; omega
  have hP := fun v => C_tparse s (by omega) v
  have hR := fun v => R_parse s (by omega) v
  obtain ⟨l1, l2, l3, l4, l5, l6⟩ := parse_law (bl s)
  have hIs := fun A c v h => C_is _ l2 A c _ l3 l4 l5 v h
  have hB := fun v => C_tbytes _ l2 v
  have hsz := nc_size64 l2
  have hi := info64 l2
  have h1 := nc_one (tparse (bl s)).1
  generalize tparse (bl s) = R at hP hIs hB hsz hi h1 l1 l6
  obtain ⟨T, z⟩ := R
  simp only at hP hIs hB hsz hi h1 l1 l6
  generalize rparse (bl s) = U at hR hIs l1 l6
  obtain ⟨x, y⟩ := U
  simp only at hR hIs l1 l6
  subst l1
  by_cases hz : z = 0
  · have hl6 := l6 hz
    rw [hl6, S_bl] at hB
    subst hz
    generalize nc T = C at hP hIs hB hsz hi h1
    clear es hs hs0 l2 l3 l4 l5 l6 hl6
    go_enter Try.func8, Try.ntmps8
    go_wp2_with (first
      | (go_at_call 19; ((with_reducible refine (C_awake6 _).mono ?_); rintro e w1 ⟨rfl, f1⟩))
      | (go_at_call 13; ((with_reducible refine (hcut _).mono ?_); rintro e w2 ⟨rfl, rfl⟩))
      | (go_at_call 29; ((with_reducible refine (hP _).mono ?_); rintro e w3 ⟨rfl, f3⟩; have g3 := f1.trans (f3.mono f1.size); have g4 := g3.alloc g3.size (.cells C 45); have r4 := heap_alloc_new w3 (.cells C 45)))
      | (refine wpList_store_new (by rfl) 45 (.tmp 3) (.tmp 14) (by rfl) w3.heap.size rfl C _ 45 (by rfl) (by rfl) hi (by rw [hsz]; rfl) h1 ?_; obtain ⟨w4, hw4⟩ : ∃ w4, w4 = w3.alloc (.cells C 45) := ⟨_, rfl⟩; rw [← hw4] at g4 r4 ⊢; clear hw4 g3)
      | (go_at_call 30; ((with_reducible refine (hR _).mono ?_); rintro e w5 ⟨X, cX, rfl, eX, f5⟩; have g5 := g4.trans (f5.mono g4.size); have r5 := (f5.block _ (Array.getElem?_eq_some_iff.1 r4).1).trans r4; clear r4))
      | (refine wpList_load_row_g (by rfl) 45 (.tmp 3) (by rfl) w3.heap.size (by rfl) 45 C (0, 0) _ r5 Try.underlying45 rfl hi ?_)
      | (go_at_call 31; ((with_reducible refine (hIs _ _ _ eX).mono ?_); rintro e w6 ⟨rfl, f6⟩; have g6 := g5.trans (f6.mono g5.size); have r6 := (f6.block _ (Array.getElem?_eq_some_iff.1 r5).1).trans r5; clear r5))
      | (refine wpList_load_row_g (by rfl) 45 (.tmp 3) (by rfl) w3.heap.size (by rfl) 45 C (0, 0) _ r6 Try.underlying45 rfl hi ?_)
      | (go_at_call 32; ((with_reducible refine (hB _).mono ?_); rintro e w7 ⟨rfl, f7⟩; have g7 := g6.trans (f7.mono g6.size))))
    go_ret
    exact ⟨rfl, g7⟩
  · generalize nc T = C at hP hIs hB hsz hi h1
    have hzb : (z == 0) = false := by rw [beq_eq_false_iff_ne]; exact hz
    clear es hs hs0 l2 l3 l4 l5 l6 hB
    go_enter Try.func8, Try.ntmps8
    go_wp2_with (first
      | (go_at_call 19; ((with_reducible refine (C_awake6 _).mono ?_); rintro e w1 ⟨rfl, f1⟩))
      | (go_at_call 13; ((with_reducible refine (hcut _).mono ?_); rintro e w2 ⟨rfl, rfl⟩))
      | (go_at_call 29; ((with_reducible refine (hP _).mono ?_); rintro e w3 ⟨rfl, f3⟩; have g3 := f1.trans (f3.mono f1.size); have g4 := g3.alloc g3.size (.cells C 45); have r4 := heap_alloc_new w3 (.cells C 45)))
      | (refine wpList_store_new (by rfl) 45 (.tmp 3) (.tmp 14) (by rfl) w3.heap.size rfl C _ 45 (by rfl) (by rfl) hi (by rw [hsz]; rfl) h1 ?_; obtain ⟨w4, hw4⟩ : ∃ w4, w4 = w3.alloc (.cells C 45) := ⟨_, rfl⟩; rw [← hw4] at g4 r4 ⊢; clear hw4 g3)
      | (go_at_call 30; ((with_reducible refine (hR _).mono ?_); rintro e w5 ⟨X, cX, rfl, eX, f5⟩; have g5 := g4.trans (f5.mono g4.size); have r5 := (f5.block _ (Array.getElem?_eq_some_iff.1 r4).1).trans r4; clear r4))
      | (refine wpList_load_row_g (by rfl) 45 (.tmp 3) (by rfl) w3.heap.size (by rfl) 45 C (0, 0) _ r5 Try.underlying45 rfl hi ?_)
      | (go_at_call 31; ((with_reducible refine (hIs _ _ _ eX).mono ?_); rintro e w6 ⟨rfl, f6⟩; have g6 := g5.trans (f6.mono g5.size); have r6 := (f6.block _ (Array.getElem?_eq_some_iff.1 r5).1).trans r5; clear r5)))
    go_ret
    exact ⟨rfl, g6⟩
end Go.Proofs.Ytgkiehefneamcaa.Cod
