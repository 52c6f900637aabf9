/- disk: deed, for whatever is asked and done. -/
import Derived.Test.YtakefjdckacgpaaDskA
namespace Go.Proofs.Ytakefjdckacgpaa.Cod
open Go.RowKit
def deedR (s : Dst) (n : ByteArray) (asked : Bool) (em : Int) (fs : List Fl) : Int × Dst :=
  if s.down then (6, s) else if asked && !(ffind s.files n).isSome then (7, s) else if em ≠ 0 then (em, s) else if s.halt = 0 then (6, { s with down := true }) else (0, { (turnR s).2 with files := fs })
set_option maxHeartbeats 4000000 in
set_option maxRecDepth 100000 in
theorem D_deed {w : World} {d m : Nat} {s : Dst} (h : DiskAt w d m s) (hds : s.deeds ≤ 1000000000) (n : ByteArray) (asked : Bool) (F1 F2 : FuncId) (cs1 cs2 : Array Value) (em : Int) (fs : List Fl)
    (he1 : ∀ args w, (callFunc F1 args).run Try.prog w = .ok (.enter F1 args) w) (he2 : ∀ args w, (callFunc F2 args).run Try.prog w = .ok (.enter F2 args) w)
    (hmay : ∀ w1, Below w.heap.size w w1 → Calls Try.prog F1 (#[fval (fget s.files n)] ++ cs1) w1 fun e w' => e = .returned (.int .i64 em) ∧ Below w1.heap.size w1 w')
    (hdo : ∀ w2, em = 0 → Touch [d] w w2 → DiskAt w2 d m (turnR s).2 → Calls Try.prog F2 (#[fval (fget s.files n)] ++ cs2) w2 fun e w' => e = .returned (.tuple #[]) ∧ DiskAt w' d m { (turnR s).2 with files := fs } ∧ Touch [m] w2 w') :
    Calls Try.prog 27 #[ptr d, .string n, .bool asked, .func (.func F1) #[] cs1, .func (.func F2) #[] cs2] w fun e w' => e = .returned (.int .i64 (deedR s n asked em fs).1) ∧ DiskAt w' d m (deedR s n asked em fs).2 ∧ Touch [d, m] w w' := by
  have c0 := cell_of_row _ _ 0 _ _ _ h.cell
  have c4 := cell_of_row _ _ 4 _ _ _ h.cell
  have hlk := flook h.map n true
  have hd := h.lt.1
  simp only [if_true] at hlk
  have e0 : (ffind s.files n).getD (ByteArray.empty, 0) = fget s.files n := rfl
  rw [e0] at hlk
  have hal : ∀ o, Below w.heap.size w (w.alloc o) := fun o => (Below.refl _ _).alloc (Nat.le_refl _) _
  have HAL := Lib.hid hal
  have HH := Lib.hid h
  have HDS := Lib.hid hds
  unfold deedR
  cases hdn : s.down with
  | true =>
    rw [hdn] at c4
    rw [if_pos rfl]
    generalize (ffind s.files n).isSome = b at hlk
    generalize fget s.files n = f at hlk
    obtain ⟨ct, sr⟩ := f
    unfold fval at hlk
    simp only at hlk
    clear h hdn hmay hdo he1 he2 hal hds e0
    go_enter Try.func27, Try.ntmps27
    go_wp2
    go_ret
    exact ⟨rfl, HH.out.below (HAL.out _), .of_below (HAL.out _)⟩
  | false =>
    rw [hdn] at c4
    rw [if_neg (by decide)]
    by_cases hq : (asked && !(ffind s.files n).isSome) = true
    · rw [if_pos hq]
      have hq2 : asked = true ∧ (ffind s.files n).isSome = false := by
        revert hq
        cases asked <;> cases (ffind s.files n).isSome <;> simp
      clear hq
      obtain ⟨rfl, hq⟩ := hq2
      rw [hq] at hlk
      generalize fget s.files n = f at hlk
      obtain ⟨ct, sr⟩ := f
      unfold fval at hlk
      try simp only at hlk
      clear h hdn hmay hdo he1 he2 hal hds e0 hq
      go_enter Try.func27, Try.ntmps27
      go_wp2
      go_ret
      exact ⟨rfl, HH.out.below (HAL.out _), .of_below (HAL.out _)⟩
    · rw [if_neg hq]
      have hm1 := hmay _ (hal (.cells #[.string (fget s.files n).1, .int .i64 ((fget s.files n).2 : Int)] FLT))
      have hb : (asked = false ∧ ∃ b, (ffind s.files n).isSome = b) ∨ (asked = true ∧ (ffind s.files n).isSome = true) := by
        cases asked
        · exact .inl ⟨rfl, _, rfl⟩
        · simp at hq
          exact .inr ⟨rfl, Option.isSome_iff_ne_none.2 hq⟩
      have HDO := Lib.hid hdo
      rcases hb with ⟨rfl, b, hb⟩ | ⟨rfl, hb⟩
      all_goals
        rw [hb] at hlk
        generalize fget s.files n = f at hlk hm1 HDO
        obtain ⟨ct, sr⟩ := f
        unfold fval at hlk hm1 HDO
        simp only at hlk hm1 HDO
        clear h hdn hmay hdo hal hds e0 hq hb
        have start : ∀ w1 : World, Below (w.alloc (.cells #[.string ct, .int .i64 (sr : Int)] FLT)).heap.size (w.alloc (.cells #[.string ct, .int .i64 (sr : Int)] FLT)) w1 → Below w.heap.size w w1 ∧ w1.heap[w.heap.size]? = some (.cells #[.string ct, .int .i64 (sr : Int)] FLT (0, 0)) := fun w1 b1 =>
          ⟨(HAL.out (.cells #[.string ct, .int .i64 (sr : Int)] FLT)).trans (b1.mono (by simp)), (b1.block _ (by simp)).trans (push_new rfl)⟩
        have HST := Lib.hid start
        clear start
        by_cases hem : em = 0
        · subst hem
          rw [if_neg (by simp)]
          by_cases hh : s.halt = 0
          · have ht : (turnR s).1 = 6 := by unfold turnR; rw [if_pos hh]
            have ht2 : (turnR s).2 = { s with down := true } := by unfold turnR; rw [if_pos hh]
            rw [if_pos hh]
            have HT1 := Lib.hid ht
            have HT2 := Lib.hid ht2
            clear ht ht2 hh
            go_enter Try.func27, Try.ntmps27
            go_wp2_with fail
            with_reducible refine hm1.mono ?_
            rintro e w1 ⟨rfl, b1⟩
            obtain ⟨b01, hbx⟩ := HST.out w1 b1
            have hT := D_turn (HH.out.below b01) HDS.out
            rw [HT1.out, HT2.out] at hT
            have B01 := Lib.hid b01
            clear hm1 b1 b01 hbx
            go_wp2_with fail
            go_at_call 41
            with_reducible refine hT.mono ?_
            rintro e w2 ⟨rfl, h2, t2, s2⟩
            have HF := Lib.hid h2
            have T2 := Lib.hid ((Touch.of_below (S := [d, m]) B01.out).trans (t2.mono (by simp)))
            clear h2 t2 s2 hT
            go_wp2
            go_ret
            exact ⟨rfl, HF.out, T2.out⟩
          · have ht : (turnR s).1 = 0 := by unfold turnR; rw [if_neg hh]
            rw [if_neg hh]
            have HT1 := Lib.hid ht
            clear ht hh
            go_enter Try.func27, Try.ntmps27
            go_wp2_with fail
            with_reducible refine hm1.mono ?_
            rintro e w1 ⟨rfl, b1⟩
            obtain ⟨b01, hbx⟩ := HST.out w1 b1
            have hT := D_turn (HH.out.below b01) HDS.out
            rw [HT1.out] at hT
            have B01 := Lib.hid b01
            have HBX := Lib.hid hbx
            clear hm1 b1 b01 hbx
            go_wp2_with fail
            go_at_call 41
            with_reducible refine hT.mono ?_
            rintro e w2 ⟨rfl, h2, t2, s2⟩
            have hbx2 := (t2.block _ (lt_of_heap HBX.out) (fun hm => by simp at hm; omega)).trans HBX.out
            have k0 := cell_of_row _ _ 0 _ _ _ hbx2
            have k1 := cell_of_row _ _ 1 _ _ _ hbx2
            have hD := HDO.out w2 (by simp) ((Touch.of_below B01.out).trans t2) h2
            have T2 := Lib.hid ((Touch.of_below (S := [d, m]) B01.out).trans (t2.mono (by simp)))
            clear h2 t2 s2 hT hbx2
            go_wp2_with fail
            with_reducible refine hD.mono ?_
            rintro e w3 ⟨rfl, h3, t3⟩
            have HF := Lib.hid h3
            have T3 := Lib.hid (T2.out.trans (t3.mono (by simp)))
            clear h3 t3 hD
            go_wp2
            go_ret
            exact ⟨rfl, HF.out, T3.out⟩
        · have hb0 : (em == 0) = false := by simp [hem]
          rw [if_pos hem]
          clear hem
          go_enter Try.func27, Try.ntmps27
          go_wp2_with fail
          with_reducible refine hm1.mono ?_
          rintro e w1 ⟨rfl, b1⟩
          have B01 := Lib.hid (HST.out w1 b1).1
          clear hm1 b1
          go_wp2
          go_ret
          exact ⟨rfl, HH.out.below B01.out, .of_below B01.out⟩
end Go.Proofs.Ytakefjdckacgpaa.Cod
