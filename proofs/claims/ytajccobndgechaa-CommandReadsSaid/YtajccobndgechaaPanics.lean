/- Commands: an epoch, or a panic that is caught. Contracts by what each call means. -/
import Derived.Test.YtajccobndgechaaWalkCommandNames
import Derived.Recover
import Derived.Laws.Pointers
namespace Go.Proofs.Ytajccobndgechaa.Cod
open Go.RowKit
def Panics (x : Value) : Prop := ∀ w : World, ∃ o pv, (Instr.typeAssert x 88 131 false).run Try.prog w = .halt (.panic (.iface 15 pv)) (w.alloc o)
theorem tp_nil : Panics .nilIface := fun w => ⟨.cells #[(typeHandle Try.prog 88), (.pointer none), typeHandle Try.prog 131, strVal ""] 163, .pointer (some ⟨w.heap.size, 0, none⟩), by kernel_rfl⟩
theorem tp_block (v : Value) : Panics (.iface 134 v) := fun w => ⟨.cells #[(typeHandle Try.prog 88), (typeHandle Try.prog 134), typeHandle Try.prog 131, strVal ""] 163, .pointer (some ⟨w.heap.size, 0, none⟩), by kernel_rfl⟩
theorem tp_cert (v : Value) : Panics (.iface 135 v) := fun w => ⟨.cells #[(typeHandle Try.prog 88), (typeHandle Try.prog 135), typeHandle Try.prog 131, strVal ""] 163, .pointer (some ⟨w.heap.size, 0, none⟩), by kernel_rfl⟩
theorem tp_mark (v : Value) : Panics (.iface 137 v) := fun w => ⟨.cells #[(typeHandle Try.prog 88), (typeHandle Try.prog 137), typeHandle Try.prog 131, strVal ""] 163, .pointer (some ⟨w.heap.size, 0, none⟩), by kernel_rfl⟩
theorem tp_unmark (v : Value) : Panics (.iface 139 v) := fun w => ⟨.cells #[(typeHandle Try.prog 88), (typeHandle Try.prog 139), typeHandle Try.prog 131, strVal ""] 163, .pointer (some ⟨w.heap.size, 0, none⟩), by kernel_rfl⟩
theorem tp_other (v : Value) : Panics (.iface 142 v) := fun w => ⟨.cells #[(typeHandle Try.prog 88), (typeHandle Try.prog 142), typeHandle Try.prog 131, strVal ""] 163, .pointer (some ⟨w.heap.size, 0, none⟩), by kernel_rfl⟩
theorem tp_clock (v : Value) (w : World) : (Instr.typeAssert (.iface 131 v) 88 131 false).run Try.prog w = .ok v w := by kernel_rfl
theorem fd_clock (n : Int) (w : World) : (Instr.field 131 (.agg #[.int .i64 n]) 0).run Try.prog w = .ok (.int .i64 n) w := by kernel_rfl
set_option maxHeartbeats 800000 in
set_option maxRecDepth 100000 in
theorem epoch_clock (n : Int) (w : World) : Calls Try.prog 86 #[.iface 131 (.agg #[.int .i64 n])] w fun e w' => e = .returned (.int .i64 n) ∧ w = w' := by
  have q := tp_clock
  have q2 := fd_clock
  go_enter Try.func86, Try.ntmps86
  go_wp2
  go_ret
  exact ⟨rfl, rfl⟩
set_option maxHeartbeats 800000 in
set_option maxRecDepth 100000 in
theorem epoch_panics (x : Value) (h : Panics x) (w : World) : Calls Try.prog 86 #[x] w fun e w' => ∃ pv, e = .panicked [{ v := .iface 15 pv, recovered := false }] ∧ Below w.heap.size w w' := by
  obtain ⟨o, pv, q⟩ := h w
  go_enter Try.func86, Try.ntmps86
  go_wp2
  exact ⟨rfl, pv, rfl, (Below.refl _ _).alloc (Nat.le_refl _) _⟩
theorem catch_panicking (p : Addr) (x : Bool) (u : TypeId) (pv : Value) (older : List PanicEntry) (w : World) (hc : w.cell? p = some (.bool x)) (hz : w.frozen? p = false) :
    CallsD Try.prog 85 #[.pointer (some p)] (.panicking ({ v := .iface u pv, recovered := false } :: older)) w fun e u' w' =>
      e = .returned (.tuple #[]) ∧ u' = .panicking ({ v := .iface u pv, recovered := true } :: older) ∧ w' = w.setCell p (.bool true) := by
  refine callsD_of_wpS Try.func85 rfl fun c₀ cs hu => ?_
  apply wpS_region
  simp [wpOpsS, go_sem, recoverD, hu, Try.ntmps85, hc, hz, bodyPostS, results, Try.results85]
theorem catch_idle (p : Addr) (x : Bool) (w : World) (hc : w.cell? p = some (.bool x)) (hz : w.frozen? p = false) :
    CallsD Try.prog 85 #[.pointer (some p)] .returning w fun e u' w' => e = .returned (.tuple #[]) ∧ u' = .returning ∧ w' = w.setCell p (.bool false) := by
  refine callsD_of_wpS Try.func85 rfl fun c₀ cs hu => ?_
  apply wpS_region
  simp [wpOpsS, go_sem, recoverD, hu, Try.ntmps85, hc, hz, bodyPostS, results, Try.results85]
  cases c₀
  simp_all
set_option maxHeartbeats 800000 in
set_option maxRecDepth 100000 in
theorem panics_clock (n : Int) (w : World) : Calls Try.prog 61 #[.iface 131 (.agg #[.int .i64 n])] w fun e w' => e = .returned (.tuple #[.int .i64 n, .bool false]) ∧ Below w.heap.size w w' := by
  have hmf : ∀ (fn : Fn) (first cap : Array Value) (w : World), (Instr.makeFunc fn first cap).run Try.prog w = .ok (.func fn first cap) w := fun _ _ _ _ => rfl
  go_enter_defers Try.func61, Try.ntmps61
  go_wp2_with (first
    | (go_at_call 86; with_reducible refine (epoch_clock n _).mono ?_; rintro e w1 ⟨rfl, rfl⟩))
  refine leaves_cons (f := 85) (args := #[.pointer (some ⟨w.heap.size, 0, none⟩)]) (by simp) (by simp [go_sem]) ?_
  refine (catch_idle ⟨w.heap.size, 0, none⟩ false _ ?_ ?_).mono ?_
  · simp [go_sem]
  · simp [go_sem]
  rintro e u' w'' ⟨rfl, rfl, rfl⟩
  simp [Leaves, settle, results, Try.results61, go_sem]
  exact (Below.refl _ _).alloc (Nat.le_refl _) _
set_option maxHeartbeats 800000 in
set_option maxRecDepth 100000 in
theorem panics_other (x : Value) (h : Panics x) (w : World) : Calls Try.prog 61 #[x] w fun e w' => e = .returned (.tuple #[.int .i64 0, .bool true]) ∧ Below w.heap.size w w' := by
  have hmf : ∀ (fn : Fn) (first cap : Array Value) (w : World), (Instr.makeFunc fn first cap).run Try.prog w = .ok (.func fn first cap) w := fun _ _ _ _ => rfl
  go_enter_defers Try.func61, Try.ntmps61
  go_wp2_with (first
    | (go_at_call 86; with_reducible refine (epoch_panics x h _).mono ?_; rintro e w1 ⟨pv, rfl, f1⟩))
  have c1 : w1.cell? ⟨w.heap.size, 0, none⟩ = some (.bool false) := (f1.cell (p := ⟨w.heap.size, 0, none⟩) (by simp)).trans (by simp)
  have z1 : w1.frozen? ⟨w.heap.size, 0, none⟩ = false := (f1.frozen (p := ⟨w.heap.size, 0, none⟩) (by simp)).trans (by simp)
  have c2 : (w1.setCell ⟨w.heap.size, 0, none⟩ (.bool true)).cell? ⟨w.heap.size, 0, none⟩ = some (.bool true) := World.cell?_setCell_same w1 ⟨w.heap.size, 0, none⟩ _ c1
  have F1 := ((Below.refl w.heap.size w).alloc (Nat.le_refl _) _).trans (f1.mono (by simp))
  refine leaves_cons (f := 85) (args := #[.pointer (some ⟨w.heap.size, 0, none⟩)]) (by simp) (by simp [go_sem]) ?_
  refine (catch_panicking ⟨w.heap.size, 0, none⟩ false _ pv [] _ c1 z1).mono ?_
  rintro e u' w'' ⟨rfl, rfl, rfl⟩
  have F2 := F1.setCell (p := ⟨w.heap.size, 0, none⟩) (Nat.le_refl _) (.bool true)
  generalize w1.setCell ⟨w.heap.size, 0, none⟩ (.bool true) = w2 at c2 F2 ⊢
  simp [Leaves, settle, results, Try.results61, go_sem, c2]
  exact F2
end Go.Proofs.Ytajccobndgechaa.Cod
