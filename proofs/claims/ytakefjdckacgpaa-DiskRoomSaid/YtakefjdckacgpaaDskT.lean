/- disk: the law's do (printed by gen/dskt.py). -/
import Derived.Test.YtakefjdckacgpaaDskW
import Derived.Test.YtakefjdckacgpaaTexts
import Derived.BigQuiet
namespace Go.Proofs.Ytakefjdckacgpaa.Cod
open Go.RowKit
abbrev ACT := 34
def doR (s : Dst) (k n : Int) (nm st : ByteArray) : Int × Dst :=
  if k = 1 then syncR s (cutB nm 3) else if k = 2 then cutR s (cutB nm 3) n else if k = 3 then renR s (cutB nm 3) (cutB st 3) else if k = 4 then remR s (cutB nm 3) else appR s (cutB nm 3) (cutB st 20)
def DoneAt (w : World) (d m : Nat) (r : Int × Dst) (e : Ending) (w' : World) : Prop := e = .returned (.int .i64 r.1) ∧ DiskAt w' d m r.2 ∧ Touch [d, m] w w'
theorem DiskAt.drewN {w : World} {d m : Nat} {s : Dst} (h : DiskAt w d m s) (n : Nat) : DiskAt (w.drewN n) d m s := h.of_blocks rfl rfl
theorem below_drewN {B : Nat} {w w' : World} (h : Below B w w') (n : Nat) : Below B w (w'.drewN n) := ⟨h.os, h.tape, h.output, h.size, h.block⟩
set_option maxHeartbeats 8000000 in
set_option maxRecDepth 100000 in
theorem D_do1 {w : World} {d m : Nat} {s : Dst} (h : DiskAt w d m s) (hds : s.deeds ≤ 1000000000) (n : Int) (nm st : ByteArray) (sl : Value) :
    Calls Try.prog 12 #[ptr d, .agg #[.int .i64 1, .int .i64 n, .string nm, .string st, sl]] w (DoneAt w d m (syncR s (cutB nm 3))) := by
  have cn := Lib.hid fun v => C_cutB nm 3 (by omega) v
  have ct := Lib.hid fun v => C_cutB st 20 (by omega) v
  have hb0 : Below w.heap.size w (w.alloc (.cells #[.int .i64 1, .int .i64 n, .string nm, .string st, sl] ACT)) := (Below.refl _ _).alloc (Nat.le_refl _) _
  have H := Lib.hid h
  have HB := Lib.hid hb0
  clear h hb0
  go_enter Try.func12, Try.ntmps12
  go_wp2_with fail
  go_quiet (first
    | (go_at_call 21; with_reducible exact Calls.quiet_of_same ((cn.out _).mono fun _ _ h => ⟨h.1, h.2.symm⟩))
    | (go_at_call 21; with_reducible exact Calls.quiet_of_same ((ct.out _).mono fun _ _ h => ⟨h.1, h.2.symm⟩)))
  have hw1 := below_drewN HB.out nq
  obtain ⟨W1, hW1⟩ : ∃ W, W = (w.alloc (.cells #[.int .i64 1, .int .i64 n, .string nm, .string st, sl] ACT)).drewN nq := ⟨_, rfl⟩
  have q0 : W1.cell? ⟨w.heap.size, 0, none⟩ = some (.int .i64 1) := by rw [hW1, show ∀ W : World, (W.drewN nq).cell? ⟨w.heap.size, 0, none⟩ = W.cell? ⟨w.heap.size, 0, none⟩ from fun _ => rfl, cell_of_row _ _ _ _ _ _ (push_new rfl)]; rfl
  rw [← hW1] at hw1 ⊢
  have h1 := H.out.below hw1
  have HW := Lib.hid hw1
  clear hw1 hW1
  have hA := D_sync h1 hds (cutB nm 3)
  clear h1
  go_wp2_with fail
  go_at_call 25
  with_reducible refine hA.mono ?_
  rintro e w2 ⟨rfl, h2, t2⟩
  have HR := Lib.hid (And.intro h2 ((Touch.of_below (S := [d, m]) HW.out).trans t2))
  clear h2 t2 hA
  go_wp2
  go_ret
  exact ⟨rfl, HR.out.1, HR.out.2⟩
set_option maxHeartbeats 8000000 in
set_option maxRecDepth 100000 in
theorem D_do2 {w : World} {d m : Nat} {s : Dst} (h : DiskAt w d m s) (hds : s.deeds ≤ 1000000000) (n : Int) (nm st : ByteArray) (sl : Value) :
    Calls Try.prog 12 #[ptr d, .agg #[.int .i64 2, .int .i64 n, .string nm, .string st, sl]] w (DoneAt w d m (cutR s (cutB nm 3) n)) := by
  have cn := Lib.hid fun v => C_cutB nm 3 (by omega) v
  have ct := Lib.hid fun v => C_cutB st 20 (by omega) v
  have hb0 : Below w.heap.size w (w.alloc (.cells #[.int .i64 2, .int .i64 n, .string nm, .string st, sl] ACT)) := (Below.refl _ _).alloc (Nat.le_refl _) _
  have H := Lib.hid h
  have HB := Lib.hid hb0
  clear h hb0
  go_enter Try.func12, Try.ntmps12
  go_wp2_with fail
  go_quiet (first
    | (go_at_call 21; with_reducible exact Calls.quiet_of_same ((cn.out _).mono fun _ _ h => ⟨h.1, h.2.symm⟩))
    | (go_at_call 21; with_reducible exact Calls.quiet_of_same ((ct.out _).mono fun _ _ h => ⟨h.1, h.2.symm⟩)))
  have hw1 := below_drewN HB.out nq
  obtain ⟨W1, hW1⟩ : ∃ W, W = (w.alloc (.cells #[.int .i64 2, .int .i64 n, .string nm, .string st, sl] ACT)).drewN nq := ⟨_, rfl⟩
  have q0 : W1.cell? ⟨w.heap.size, 0, none⟩ = some (.int .i64 2) := by rw [hW1, show ∀ W : World, (W.drewN nq).cell? ⟨w.heap.size, 0, none⟩ = W.cell? ⟨w.heap.size, 0, none⟩ from fun _ => rfl, cell_of_row _ _ _ _ _ _ (push_new rfl)]; rfl
  have q1 : W1.cell? ⟨w.heap.size, 1, none⟩ = some (.int .i64 n) := by rw [hW1, show ∀ W : World, (W.drewN nq).cell? ⟨w.heap.size, 1, none⟩ = W.cell? ⟨w.heap.size, 1, none⟩ from fun _ => rfl, cell_of_row _ _ _ _ _ _ (push_new rfl)]; rfl
  rw [← hW1] at hw1 ⊢
  have h1 := H.out.below hw1
  have HW := Lib.hid hw1
  clear hw1 hW1
  have hA := D_cut h1 hds (cutB nm 3) n
  clear h1
  go_wp2_with fail
  go_at_call 30
  with_reducible refine hA.mono ?_
  rintro e w2 ⟨rfl, h2, t2⟩
  have HR := Lib.hid (And.intro h2 ((Touch.of_below (S := [d, m]) HW.out).trans t2))
  clear h2 t2 hA
  go_wp2
  go_ret
  exact ⟨rfl, HR.out.1, HR.out.2⟩
set_option maxHeartbeats 8000000 in
set_option maxRecDepth 100000 in
theorem D_do3 {w : World} {d m : Nat} {s : Dst} (h : DiskAt w d m s) (hds : s.deeds ≤ 1000000000) (n : Int) (nm st : ByteArray) (sl : Value) :
    Calls Try.prog 12 #[ptr d, .agg #[.int .i64 3, .int .i64 n, .string nm, .string st, sl]] w (DoneAt w d m (renR s (cutB nm 3) (cutB st 3))) := by
  have cn := Lib.hid fun v => C_cutB nm 3 (by omega) v
  have ct := Lib.hid fun v => C_cutB st 20 (by omega) v
  have hb0 : Below w.heap.size w (w.alloc (.cells #[.int .i64 3, .int .i64 n, .string nm, .string st, sl] ACT)) := (Below.refl _ _).alloc (Nat.le_refl _) _
  have H := Lib.hid h
  have HB := Lib.hid hb0
  clear h hb0
  go_enter Try.func12, Try.ntmps12
  go_wp2_with fail
  go_quiet (first
    | (go_at_call 21; with_reducible exact Calls.quiet_of_same ((cn.out _).mono fun _ _ h => ⟨h.1, h.2.symm⟩))
    | (go_at_call 21; with_reducible exact Calls.quiet_of_same ((ct.out _).mono fun _ _ h => ⟨h.1, h.2.symm⟩)))
  have hw1 := below_drewN HB.out nq
  obtain ⟨W1, hW1⟩ : ∃ W, W = (w.alloc (.cells #[.int .i64 3, .int .i64 n, .string nm, .string st, sl] ACT)).drewN nq := ⟨_, rfl⟩
  have q0 : W1.cell? ⟨w.heap.size, 0, none⟩ = some (.int .i64 3) := by rw [hW1, show ∀ W : World, (W.drewN nq).cell? ⟨w.heap.size, 0, none⟩ = W.cell? ⟨w.heap.size, 0, none⟩ from fun _ => rfl, cell_of_row _ _ _ _ _ _ (push_new rfl)]; rfl
  have q3 : W1.cell? ⟨w.heap.size, 3, none⟩ = some (.string st) := by rw [hW1, show ∀ W : World, (W.drewN nq).cell? ⟨w.heap.size, 3, none⟩ = W.cell? ⟨w.heap.size, 3, none⟩ from fun _ => rfl, cell_of_row _ _ _ _ _ _ (push_new rfl)]; rfl
  rw [← hW1] at hw1 ⊢
  have h1 := H.out.below hw1
  have HW := Lib.hid hw1
  clear hw1 hW1
  have cs := Lib.hid fun v => C_cutB st 3 (by omega) v
  have hA := D_rename h1 hds (cutB nm 3) (cutB st 3)
  clear h1
  go_wp2_with fail
  go_at_call 21
  refine (cs.out _).mono ?_
  rintro e w2 ⟨rfl, rfl⟩
  go_wp2_with fail
  go_at_call 31
  with_reducible refine hA.mono ?_
  rintro e w2 ⟨rfl, h2, t2⟩
  have HR := Lib.hid (And.intro h2 ((Touch.of_below (S := [d, m]) HW.out).trans t2))
  clear h2 t2 hA
  go_wp2
  go_ret
  exact ⟨rfl, HR.out.1, HR.out.2⟩
set_option maxHeartbeats 8000000 in
set_option maxRecDepth 100000 in
theorem D_do4 {w : World} {d m : Nat} {s : Dst} (h : DiskAt w d m s) (hds : s.deeds ≤ 1000000000) (n : Int) (nm st : ByteArray) (sl : Value) :
    Calls Try.prog 12 #[ptr d, .agg #[.int .i64 4, .int .i64 n, .string nm, .string st, sl]] w (DoneAt w d m (remR s (cutB nm 3))) := by
  have cn := Lib.hid fun v => C_cutB nm 3 (by omega) v
  have ct := Lib.hid fun v => C_cutB st 20 (by omega) v
  have hb0 : Below w.heap.size w (w.alloc (.cells #[.int .i64 4, .int .i64 n, .string nm, .string st, sl] ACT)) := (Below.refl _ _).alloc (Nat.le_refl _) _
  have H := Lib.hid h
  have HB := Lib.hid hb0
  clear h hb0
  go_enter Try.func12, Try.ntmps12
  go_wp2_with fail
  go_quiet (first
    | (go_at_call 21; with_reducible exact Calls.quiet_of_same ((cn.out _).mono fun _ _ h => ⟨h.1, h.2.symm⟩))
    | (go_at_call 21; with_reducible exact Calls.quiet_of_same ((ct.out _).mono fun _ _ h => ⟨h.1, h.2.symm⟩)))
  have hw1 := below_drewN HB.out nq
  obtain ⟨W1, hW1⟩ : ∃ W, W = (w.alloc (.cells #[.int .i64 4, .int .i64 n, .string nm, .string st, sl] ACT)).drewN nq := ⟨_, rfl⟩
  have q0 : W1.cell? ⟨w.heap.size, 0, none⟩ = some (.int .i64 4) := by rw [hW1, show ∀ W : World, (W.drewN nq).cell? ⟨w.heap.size, 0, none⟩ = W.cell? ⟨w.heap.size, 0, none⟩ from fun _ => rfl, cell_of_row _ _ _ _ _ _ (push_new rfl)]; rfl
  rw [← hW1] at hw1 ⊢
  have h1 := H.out.below hw1
  have HW := Lib.hid hw1
  clear hw1 hW1
  have hA := D_remove h1 hds (cutB nm 3)
  clear h1
  go_wp2_with fail
  go_at_call 32
  with_reducible refine hA.mono ?_
  rintro e w2 ⟨rfl, h2, t2⟩
  have HR := Lib.hid (And.intro h2 ((Touch.of_below (S := [d, m]) HW.out).trans t2))
  clear h2 t2 hA
  go_wp2
  go_ret
  exact ⟨rfl, HR.out.1, HR.out.2⟩
set_option maxHeartbeats 8000000 in
set_option maxRecDepth 100000 in
theorem D_do0 {w : World} {d m : Nat} {s : Dst} (h : DiskAt w d m s) (hds : s.deeds ≤ 1000000000) (k n : Int) (k1 : k ≠ 1) (k2 : k ≠ 2) (k3 : k ≠ 3) (k4 : k ≠ 4) (nm st : ByteArray) (sl : Value) :
    Calls Try.prog 12 #[ptr d, .agg #[.int .i64 k, .int .i64 n, .string nm, .string st, sl]] w (DoneAt w d m (appR s (cutB nm 3) (cutB st 20))) := by
  have cn := Lib.hid fun v => C_cutB nm 3 (by omega) v
  have ct := Lib.hid fun v => C_cutB st 20 (by omega) v
  have e1 : (k == 1) = false := by simp [k1]
  have e2 : (k == 2) = false := by simp [k2]
  have e3 : (k == 3) = false := by simp [k3]
  have e4 : (k == 4) = false := by simp [k4]
  have hb0 : Below w.heap.size w (w.alloc (.cells #[.int .i64 k, .int .i64 n, .string nm, .string st, sl] ACT)) := (Below.refl _ _).alloc (Nat.le_refl _) _
  have H := Lib.hid h
  have HB := Lib.hid hb0
  clear h hb0
  go_enter Try.func12, Try.ntmps12
  go_wp2_with fail
  go_quiet (first
    | (go_at_call 21; with_reducible exact Calls.quiet_of_same ((cn.out _).mono fun _ _ h => ⟨h.1, h.2.symm⟩))
    | (go_at_call 21; with_reducible exact Calls.quiet_of_same ((ct.out _).mono fun _ _ h => ⟨h.1, h.2.symm⟩)))
  have hw1 := below_drewN HB.out nq
  obtain ⟨W1, hW1⟩ : ∃ W, W = (w.alloc (.cells #[.int .i64 k, .int .i64 n, .string nm, .string st, sl] ACT)).drewN nq := ⟨_, rfl⟩
  have q0 : W1.cell? ⟨w.heap.size, 0, none⟩ = some (.int .i64 k) := by rw [hW1, show ∀ W : World, (W.drewN nq).cell? ⟨w.heap.size, 0, none⟩ = W.cell? ⟨w.heap.size, 0, none⟩ from fun _ => rfl, cell_of_row _ _ _ _ _ _ (push_new rfl)]; rfl
  rw [← hW1] at hw1 ⊢
  have h1 := H.out.below hw1
  have HW := Lib.hid hw1
  clear hw1 hW1
  have hA := D_append h1 hds (cutB nm 3) (cutB st 20)
  clear h1
  go_wp2_with fail
  go_at_call 9
  with_reducible refine hA.mono ?_
  rintro e w2 ⟨rfl, h2, t2⟩
  have HR := Lib.hid (And.intro h2 ((Touch.of_below (S := [d, m]) HW.out).trans t2))
  clear h2 t2 hA
  go_wp2
  go_ret
  exact ⟨rfl, HR.out.1, HR.out.2⟩
theorem D_do {w : World} {d m : Nat} {s : Dst} (h : DiskAt w d m s) (hds : s.deeds ≤ 1000000000) (k n : Int) (nm st : ByteArray) (sl : Value) :
    Calls Try.prog 12 #[ptr d, .agg #[.int .i64 k, .int .i64 n, .string nm, .string st, sl]] w (DoneAt w d m (doR s k n nm st)) := by
  unfold doR
  by_cases k1 : k = 1
  · subst k1; rw [if_pos rfl]; exact D_do1 h hds n nm st sl
  rw [if_neg k1]
  by_cases k2 : k = 2
  · subst k2; rw [if_pos rfl]; exact D_do2 h hds n nm st sl
  rw [if_neg k2]
  by_cases k3 : k = 3
  · subst k3; rw [if_pos rfl]; exact D_do3 h hds n nm st sl
  rw [if_neg k3]
  by_cases k4 : k = 4
  · subst k4; rw [if_pos rfl]; exact D_do4 h hds n nm st sl
  rw [if_neg k4]
  exact D_do0 h hds k n k1 k2 k3 k4 nm st sl
end Go.Proofs.Ytakefjdckacgpaa.Cod
