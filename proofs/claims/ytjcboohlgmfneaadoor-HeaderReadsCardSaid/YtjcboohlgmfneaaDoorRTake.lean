/- ref05.TakeNum, TakeRaw: the walks. -/
import Derived.Test.YtjcboohlgmfneaaDoorHdM
import Derived.Test.YtjcboohlgmfneaaDoorHead
import Derived.Laws.Rows
namespace Go.Proofs.YtjcboohlgmfneaaDoor.Cod
open Go.RowKit
theorem result_2 {P : Program} {w : World} {fn : Func} {tmps : Array Value} {x y : Tmp} {t : TypeId} {p : Addr} {v u : Value} (h : fn.results = #[.cell x t, .tmp y]) (hx : tmps.getD x undef = .pointer (some p)) (hy : tmps.getD y undef = u) (hl : (loadVar t p).run P w = .ok v w) :
    (results fn tmps).run P w = .ok (.tuple #[v, u]) w := by
  simp only [Array.getD_eq_getD_getElem?] at hx hy
  simp [results, h, hx, hl, hy, asAddr]
theorem headOf {s : ByteArray} (hs : s.size ≤ 140737488351232) {x k e : Nat} (h : hd (bl s) = (x, k, e)) (v : World) : Calls Tryd.prog 36 #[.string s] v fun f w' => f = .returned (.tuple #[.int .i64 x, .int .i64 k, .int .i64 e]) ∧ v = w' := by
  have := C_head s v hs
  rw [h] at this
  exact this
theorem infoTaken : (Tryd.prog.info? 54).map (·.size) = some 2 := by kernel_rfl
def takenV (s : ByteArray) (e : Nat) : Value := .agg #[.string s, .int .i64 e]
def TNum (s : ByteArray) (e : Nat) (m : Int) : Prop := ∀ w, Calls Tryd.prog 23 #[takenV s e, .int .i64 m] w fun f w' => f = .returned (.tuple #[takenV (S (inNum m (bl s, e)).2.1) (inNum m (bl s, e)).2.2, .int .i64 (inNum m (bl s, e)).1]) ∧ Below w.heap.size w w'
set_option maxHeartbeats 1600000 in
set_option maxRecDepth 100000 in
theorem R_takenum (s : ByteArray) (hs : s.size ≤ 140737488351232) (e : Nat) (m : Int) : TNum s e m := by
  intro w
  have hb : ∀ o1 o2 : Obj, Below w.heap.size w ((w.alloc o1).alloc o2) := fun o1 o2 => ((Below.refl _ _).alloc (Nat.le_refl _) _).alloc (by simp) _
  have hi : ∀ a b : Value, (Tryd.prog.info? 54).map (·.size) = some (#[a, b] : Array Value).size := fun a b => infoTaken
  by_cases he : e = 0
  · subst he
    rcases hdM m (bl s) with ⟨x, k, hh, hx, hin, hkl, _, _⟩ | ⟨x, k, e, hh, he, hin⟩ | ⟨x, k, hh, hx, hin⟩
    · have hH := headOf hs hh
      rw [hin]
      rw [bl_len] at hkl
      have hkls : (k : Int) ≤ (s.size : Int) := by omega
      have hse : S ((bl s).drop k) = s.extract k s.size := (eq_S (bl_drop s k)).symm
      rw [hse]
      clear hh hin hse
      unfold takenV
      go_enter Tryd.func23, Tryd.ntmps23
      go_wp2_with (go_at_call 36; (with_reducible refine (hH _).mono ?_); rintro e1 w1 ⟨rfl, rfl⟩)
      refine bodyPost_ret (result_2 rfl rfl rfl (run_loadVar_row _ (w.heap.size + 1) 54 54 _ (0, 0) _ (heap_alloc2_new _ _ _) Tryd.underlying54 rfl infoTaken)) rfl ⟨rfl, hb _ _⟩
    · have hH := headOf hs hh
      rw [hin]
      have he0 : ¬ (e : Int) = 0 := by omega
      have heb : ((e : Int) == 0) = false := by rw [beq_eq_false_iff_ne]; exact he0
      clear hh hin
      unfold takenV
      go_enter Tryd.func23, Tryd.ntmps23
      go_wp2_with (go_at_call 36; (with_reducible refine (hH _).mono ?_); rintro e1 w1 ⟨rfl, rfl⟩)
      refine bodyPost_ret (result_2 rfl rfl rfl (run_loadVar_row _ (w.heap.size + 1) 54 54 _ (0, 0) _ (heap_alloc2_new _ _ _) Tryd.underlying54 rfl infoTaken)) rfl ⟨rfl, hb _ _⟩
    · have hH := headOf hs hh
      rw [hin]
      clear hh hin
      unfold takenV
      go_enter Tryd.func23, Tryd.ntmps23
      go_wp2_with (go_at_call 36; (with_reducible refine (hH _).mono ?_); rintro e1 w1 ⟨rfl, rfl⟩)
      refine bodyPost_ret (result_2 rfl rfl rfl (run_loadVar_row _ (w.heap.size + 1) 54 54 _ (0, 0) _ (heap_alloc2_new _ _ _) Tryd.underlying54 rfl infoTaken)) rfl ⟨rfl, hb _ _⟩
  · rw [inNum_err m (bl s) e he, S_bl]
    have he0 : ¬ (e : Int) = 0 := by omega
    have heb : ((e : Int) == 0) = false := by rw [beq_eq_false_iff_ne]; exact he0
    clear he
    unfold takenV
    go_enter Tryd.func23, Tryd.ntmps23
    go_wp2
    refine bodyPost_ret (result_2 rfl rfl rfl (run_loadVar_row _ (w.heap.size + 1) 54 54 _ (0, 0) _ (heap_alloc2_new _ _ _) Tryd.underlying54 rfl infoTaken)) rfl ⟨rfl, hb _ _⟩
def TRaw (s : ByteArray) (e n : Nat) : Prop := ∀ w, Calls Tryd.prog 24 #[takenV s e, .int .i64 n] w fun f w' => f = .returned (.tuple #[takenV (S (inRaw n (bl s, e)).2.1) (inRaw n (bl s, e)).2.2, .string (S (inRaw n (bl s, e)).1)]) ∧ Below w.heap.size w w'
set_option maxHeartbeats 1600000 in
set_option maxRecDepth 100000 in
theorem R_takeraw (s : ByteArray) (e n : Nat) : TRaw s e n := by
  intro w
  have hb : ∀ o1 o2 : Obj, Below w.heap.size w ((w.alloc o1).alloc o2) := fun o1 o2 => ((Below.refl _ _).alloc (Nat.le_refl _) _).alloc (by simp) _
  by_cases he : e = 0
  · subst he
    by_cases hl : (bl s).length < n
    · have hin : inRaw n (bl s, 0) = ([], ([], 2)) := by unfold inRaw; simp [hl]
      rw [hin]
      rw [bl_len] at hl
      have hli : (s.size : Int) < (n : Int) := by omega
      clear hin hl
      unfold takenV
      go_enter Tryd.func24, Tryd.ntmps24
      go_wp2
      refine bodyPost_ret (result_2 rfl rfl rfl (run_loadVar_row _ (w.heap.size + 1) 54 54 _ (0, 0) _ (heap_alloc2_new _ _ _) Tryd.underlying54 rfl infoTaken)) rfl ⟨rfl, hb _ _⟩
    · have hin : inRaw n (bl s, 0) = ((bl s).take n, ((bl s).drop n, 0)) := by unfold inRaw; simp [hl]
      rw [hin]
      rw [bl_len] at hl
      have hli : ¬ (s.size : Int) < (n : Int) := by omega
      have hli2 : (n : Int) ≤ (s.size : Int) := by omega
      have hse : S ((bl s).drop n) = s.extract n s.size := (eq_S (bl_drop s n)).symm
      have hst : S ((bl s).take n) = s.extract 0 n := (eq_S (bl_take s n)).symm
      rw [hse, hst]
      clear hin hse hst hl
      unfold takenV
      go_enter Tryd.func24, Tryd.ntmps24
      go_wp2
      go_region
      all_goals go_wp2
      refine bodyPost_ret (result_2 rfl rfl rfl (run_loadVar_row _ (w.heap.size + 1) 54 54 _ (0, 0) _ (show ((w.alloc (.cells #[.string s, .int .i64 0] 54)).alloc (.cells #[.string (s.extract n s.size), .int .i64 0] 54)).heap[w.heap.size + 1]? = _ from heap_alloc2_new _ _ _) Tryd.underlying54 rfl infoTaken)) rfl ⟨rfl, (hb _ _).drew⟩
  · have hin : inRaw n (bl s, e) = ([], (bl s, e)) := by unfold inRaw; simp [he]
    rw [hin, S_bl]
    have he0 : ¬ (e : Int) = 0 := by omega
    have heb : ((e : Int) == 0) = false := by rw [beq_eq_false_iff_ne]; exact he0
    clear he hin
    unfold takenV
    go_enter Tryd.func24, Tryd.ntmps24
    go_wp2
    refine bodyPost_ret (result_2 rfl rfl rfl (run_loadVar_row _ (w.heap.size + 1) 54 54 _ (0, 0) _ (heap_alloc2_new _ _ _) Tryd.underlying54 rfl infoTaken)) rfl ⟨rfl, hb _ _⟩
end Go.Proofs.YtjcboohlgmfneaaDoor.Cod
