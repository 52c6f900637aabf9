/- ref20.Parse: contract by what it means. -/
import Derived.Test.YtajccobndgechaaRNum
import Derived.Test.YtajccobndgechaaRCheck
import Derived.Test.YtajccobndgechaaCmdC
namespace Go.Proofs.Ytajccobndgechaa.Cod
open Go.RowKit
set_option linter.unusedVariables false
theorem results_cell2 {P : Program} {w : World} {fn : Func} {tmps : Array Value} {x u : Tmp} {t : TypeId} {p : Addr} {v : Value} (h : fn.results = #[.cell x t, .tmp u]) (hx : tmps.getD x undef = .pointer (some p)) (hl : (loadVar t p).run P w = .ok v w) :
    (results fn tmps).run P w = .ok (.tuple #[v, tmps.getD u undef]) w := by
  simp only [Array.getD_eq_getD_getElem?] at hx
  simp [results, h, hx, hl, asAddr]
def NumIs (s : ByteArray) (m : Int) (x : Nat) (t : ByteArray) : Prop := ∀ v, Calls Try.prog 80 #[.string s, .int .i64 m] v fun e w' => e = .returned (.tuple #[.int .i64 x, .string t, .int .i64 0]) ∧ v.drew = w'
def NumNot (s : ByteArray) (m : Int) (x : Nat) (t : ByteArray) (e1 : Nat) : Prop := ∀ v, Calls Try.prog 80 #[.string s, .int .i64 m] v fun e w' => e = .returned (.tuple #[.int .i64 x, .string t, .int .i64 e1]) ∧ v = w'
def RChk (k : Int) (s : ByteArray) (r : Bool) (n : Int) (y : Nat) : Prop := ∀ v, Calls Try.prog 60 #[.agg #[.int .i64 k, .string s, .bool r, .int .i64 n]] v fun e w' => e = .returned (.int .i64 y) ∧ Below v.heap.size v w'

set_option maxHeartbeats 1600000 in
set_option maxRecDepth 100000 in
theorem rp_e1 (s : ByteArray) (x : Nat) (t : ByteArray) (e1 : Nat) (he : ¬ (e1 : Int) = 0) (hN : NumNot s 255 x t e1) (w : World) :
    Calls Try.prog 54 #[.string s] w fun e w' => e = .returned (.tuple #[.agg #[.int .i64 0, .string ⟨#[]⟩, .bool false, .int .i64 0], .int .i64 e1]) ∧ Below w.heap.size w w' := by
  unfold NumNot at *
  go_enter Try.func54, Try.ntmps54
  go_wp2_with (first
    | (go_at_call 80; with_reducible refine (hN _).mono ?_; rintro e w1 ⟨rfl, rfl⟩))
  refine bodyPost_ret (results_cell2 rfl rfl ?_) rfl ⟨rfl, ?_⟩
  · go_simp
  repeat (first | exact Below.refl _ _ | refine Below.drew ?_ | refine Below.alloc ?_ (by simp <;> omega) _ | refine Below.setCell ?_ (by simp <;> omega) _)
set_option maxHeartbeats 1600000 in
set_option maxRecDepth 100000 in
theorem rp_low (s : ByteArray) (t : ByteArray) (hN : NumIs s 255 0 t) (w : World) :
    Calls Try.prog 54 #[.string s] w fun e w' => e = .returned (.tuple #[.agg #[.int .i64 0, .string ⟨#[]⟩, .bool false, .int .i64 0], .int .i64 18]) ∧ Below w.heap.size w w' := by
  unfold NumIs at *
  go_enter Try.func54, Try.ntmps54
  go_wp2_with (first
    | (go_at_call 80; with_reducible refine (hN _).mono ?_; rintro e w1 ⟨rfl, rfl⟩))
  refine bodyPost_ret (results_cell2 rfl rfl ?_) rfl ⟨rfl, ?_⟩
  · go_simp
  repeat (first | exact Below.refl _ _ | refine Below.drew ?_ | refine Below.alloc ?_ (by simp <;> omega) _ | refine Below.setCell ?_ (by simp <;> omega) _)
set_option maxHeartbeats 1600000 in
set_option maxRecDepth 100000 in
theorem rp_high (s : ByteArray) (k : Nat) (t : ByteArray) (h : 5 < (k : Int)) (h1 : ¬ (k : Int) < 1) (hN : NumIs s 255 k t) (w : World) :
    Calls Try.prog 54 #[.string s] w fun e w' => e = .returned (.tuple #[.agg #[.int .i64 0, .string ⟨#[]⟩, .bool false, .int .i64 0], .int .i64 18]) ∧ Below w.heap.size w w' := by
  unfold NumIs at *
  go_enter Try.func54, Try.ntmps54
  go_wp2_with (first
    | (go_at_call 80; with_reducible refine (hN _).mono ?_; rintro e w1 ⟨rfl, rfl⟩))
  refine bodyPost_ret (results_cell2 rfl rfl ?_) rfl ⟨rfl, ?_⟩
  · go_simp
  repeat (first | exact Below.refl _ _ | refine Below.drew ?_ | refine Below.alloc ?_ (by simp <;> omega) _ | refine Below.setCell ?_ (by simp <;> omega) _)
set_option maxHeartbeats 1600000 in
set_option maxRecDepth 100000 in
theorem rp_e2_1 (s : ByteArray) (t : ByteArray) (hN : NumIs s 255 1 t) (x : Nat) (t2 : ByteArray) (e2 : Nat) (he : ¬ (e2 : Int) = 0) (hN2 : NumNot t 1 x t2 e2) (w : World) :
    Calls Try.prog 54 #[.string s] w fun e w' => e = .returned (.tuple #[.agg #[.int .i64 0, .string ⟨#[]⟩, .bool false, .int .i64 0], .int .i64 e2]) ∧ Below w.heap.size w w' := by
  unfold NumIs NumNot at *
  go_enter Try.func54, Try.ntmps54
  go_wp2_with (first
    | (go_at_call 80; with_reducible refine (hN _).mono ?_; rintro e w1 ⟨rfl, rfl⟩)
    | (go_at_call 80; with_reducible refine (hN2 _).mono ?_; rintro e w2 ⟨rfl, rfl⟩))
  refine bodyPost_ret (results_cell2 rfl rfl ?_) rfl ⟨rfl, ?_⟩
  · go_simp
  repeat (first | exact Below.refl _ _ | refine Below.drew ?_ | refine Below.alloc ?_ (by simp <;> omega) _ | refine Below.setCell ?_ (by simp <;> omega) _)
set_option maxHeartbeats 1600000 in
set_option maxRecDepth 100000 in
theorem rp_e3_1 (s : ByteArray) (t : ByteArray) (hN : NumIs s 255 1 t) (x : Nat) (t2 : ByteArray) (hN2 : NumIs t 1 x t2) (n : Nat) (t3 : ByteArray) (e3 : Nat) (he : ¬ (e3 : Int) = 0) (hN3 : NumNot t2 4096 n t3 e3) (w : World) :
    Calls Try.prog 54 #[.string s] w fun e w' => e = .returned (.tuple #[.agg #[.int .i64 0, .string ⟨#[]⟩, .bool false, .int .i64 0], .int .i64 e3]) ∧ Below w.heap.size w w' := by
  unfold NumIs NumNot at *
  go_enter Try.func54, Try.ntmps54
  go_wp2_with (first
    | (go_at_call 80; with_reducible refine (hN _).mono ?_; rintro e w1 ⟨rfl, rfl⟩)
    | (go_at_call 80; with_reducible refine (hN2 _).mono ?_; rintro e w2 ⟨rfl, rfl⟩)
    | (go_at_call 80; with_reducible refine (hN3 _).mono ?_; rintro e w3 ⟨rfl, rfl⟩))
  refine bodyPost_ret (results_cell2 rfl rfl ?_) rfl ⟨rfl, ?_⟩
  · go_simp
  repeat (first | exact Below.refl _ _ | refine Below.drew ?_ | refine Below.alloc ?_ (by simp <;> omega) _ | refine Below.setCell ?_ (by simp <;> omega) _)
set_option maxHeartbeats 1600000 in
set_option maxRecDepth 100000 in
theorem rp_long_1 (s : ByteArray) (t : ByteArray) (hN : NumIs s 255 1 t) (x : Nat) (t2 : ByteArray) (hN2 : NumIs t 1 x t2) (n : Nat) (t3 : ByteArray) (hN3 : NumIs t2 4096 n t3) (hn : (t3.size : Int) < (n : Int)) (w : World) :
    Calls Try.prog 54 #[.string s] w fun e w' => e = .returned (.tuple #[.agg #[.int .i64 0, .string ⟨#[]⟩, .bool false, .int .i64 0], .int .i64 2]) ∧ Below w.heap.size w w' := by
  unfold NumIs at *
  go_enter Try.func54, Try.ntmps54
  go_wp2_with (first
    | (go_at_call 80; with_reducible refine (hN _).mono ?_; rintro e w1 ⟨rfl, rfl⟩)
    | (go_at_call 80; with_reducible refine (hN2 _).mono ?_; rintro e w2 ⟨rfl, rfl⟩)
    | (go_at_call 80; with_reducible refine (hN3 _).mono ?_; rintro e w3 ⟨rfl, rfl⟩))
  refine bodyPost_ret (results_cell2 rfl rfl ?_) rfl ⟨rfl, ?_⟩
  · go_simp
  repeat (first | exact Below.refl _ _ | refine Below.drew ?_ | refine Below.alloc ?_ (by simp <;> omega) _ | refine Below.setCell ?_ (by simp <;> omega) _)
set_option maxHeartbeats 1600000 in
set_option maxRecDepth 100000 in
theorem rp_trail_1 (s : ByteArray) (t : ByteArray) (hN : NumIs s 255 1 t) (x : Nat) (t2 : ByteArray) (hN2 : NumIs t 1 x t2) (n : Nat) (t3 : ByteArray) (hN3 : NumIs t2 4096 n t3) (hn : (n : Int) ≤ (t3.size : Int)) (ht : ((t3.extract n t3.size).toList == ([] : List UInt8)) = false) (w : World) :
    Calls Try.prog 54 #[.string s] w fun e w' => e = .returned (.tuple #[.agg #[.int .i64 0, .string ⟨#[]⟩, .bool false, .int .i64 0], .int .i64 3]) ∧ Below w.heap.size w w' := by
  unfold NumIs at *
  go_enter Try.func54, Try.ntmps54
  go_wp2_with (first
    | (go_at_call 80; with_reducible refine (hN _).mono ?_; rintro e w1 ⟨rfl, rfl⟩)
    | (go_at_call 80; with_reducible refine (hN2 _).mono ?_; rintro e w2 ⟨rfl, rfl⟩)
    | (go_at_call 80; with_reducible refine (hN3 _).mono ?_; rintro e w3 ⟨rfl, rfl⟩))
  refine bodyPost_ret (results_cell2 rfl rfl ?_) rfl ⟨rfl, ?_⟩
  · go_simp
  repeat (first | exact Below.refl _ _ | refine Below.drew ?_ | refine Below.alloc ?_ (by simp <;> omega) _ | refine Below.setCell ?_ (by simp <;> omega) _)
set_option maxHeartbeats 1600000 in
set_option maxRecDepth 100000 in
theorem rp_chk_1 (s : ByteArray) (t : ByteArray) (hN : NumIs s 255 1 t) (x : Nat) (t2 : ByteArray) (hN2 : NumIs t 1 x t2) (n : Nat) (t3 : ByteArray) (hN3 : NumIs t2 4096 n t3) (hn : (n : Int) ≤ (t3.size : Int)) (ht : ((t3.extract n t3.size).toList == ([] : List UInt8)) = true) (y : Nat) (hy : ¬ (y : Int) = 0) (hR : RChk 1 (t3.extract 0 n) ((x : Int) == 1) 0 y) (w : World) :
    Calls Try.prog 54 #[.string s] w fun e w' => e = .returned (.tuple #[.agg #[.int .i64 0, .string ⟨#[]⟩, .bool false, .int .i64 0], .int .i64 y]) ∧ Below w.heap.size w w' := by
  unfold NumIs RChk at *
  go_enter Try.func54, Try.ntmps54
  go_wp2_with (first
    | (go_at_call 80; with_reducible refine (hN _).mono ?_; rintro e w1 ⟨rfl, rfl⟩)
    | (go_at_call 80; with_reducible refine (hN2 _).mono ?_; rintro e w2 ⟨rfl, rfl⟩)
    | (go_at_call 80; with_reducible refine (hN3 _).mono ?_; rintro e w3 ⟨rfl, rfl⟩))
  go_at_call 60
  with_reducible refine (hR _).mono ?_
  rintro e w9 ⟨rfl, f9⟩
  have c00 : w9.cell? ⟨w.heap.size, 0, none⟩ = some (.int .i64 0) := (f9.cell (p := ⟨w.heap.size, 0, none⟩) (by simp <;> omega)).trans (by go_simp)
  have c01 : w9.cell? ⟨w.heap.size, 1, none⟩ = some (.string ⟨#[]⟩) := (f9.cell (p := ⟨w.heap.size, 1, none⟩) (by simp <;> omega)).trans (by go_simp)
  have c02 : w9.cell? ⟨w.heap.size, 2, none⟩ = some (.bool false) := (f9.cell (p := ⟨w.heap.size, 2, none⟩) (by simp <;> omega)).trans (by go_simp)
  have c03 : w9.cell? ⟨w.heap.size, 3, none⟩ = some (.int .i64 0) := (f9.cell (p := ⟨w.heap.size, 3, none⟩) (by simp <;> omega)).trans (by go_simp)
  have c10 : w9.cell? ⟨w.heap.size + 1, 0, none⟩ = some (.int .i64 0) := (f9.cell (p := ⟨w.heap.size + 1, 0, none⟩) (by simp <;> omega)).trans (by go_simp)
  have c11 : w9.cell? ⟨w.heap.size + 1, 1, none⟩ = some (.string ⟨#[]⟩) := (f9.cell (p := ⟨w.heap.size + 1, 1, none⟩) (by simp <;> omega)).trans (by go_simp)
  have c12 : w9.cell? ⟨w.heap.size + 1, 2, none⟩ = some (.bool false) := (f9.cell (p := ⟨w.heap.size + 1, 2, none⟩) (by simp <;> omega)).trans (by go_simp)
  have c13 : w9.cell? ⟨w.heap.size + 1, 3, none⟩ = some (.int .i64 0) := (f9.cell (p := ⟨w.heap.size + 1, 3, none⟩) (by simp <;> omega)).trans (by go_simp)
  have c20 : w9.cell? ⟨w.heap.size + 2, 0, none⟩ = some (.int .i64 1) := (f9.cell (p := ⟨w.heap.size + 2, 0, none⟩) (by simp <;> omega)).trans (by go_simp)
  have c21 : w9.cell? ⟨w.heap.size + 2, 1, none⟩ = some (.string (t3.extract 0 n)) := (f9.cell (p := ⟨w.heap.size + 2, 1, none⟩) (by simp <;> omega)).trans (by go_simp)
  have c22 : w9.cell? ⟨w.heap.size + 2, 2, none⟩ = some (.bool ((x : Int) == 1)) := (f9.cell (p := ⟨w.heap.size + 2, 2, none⟩) (by simp <;> omega)).trans (by go_simp)
  have c23 : w9.cell? ⟨w.heap.size + 2, 3, none⟩ = some (.int .i64 0) := (f9.cell (p := ⟨w.heap.size + 2, 3, none⟩) (by simp <;> omega)).trans (by go_simp)
  have z0 : w9.frozen? ⟨w.heap.size, 0, none⟩ = false := (f9.frozen (p := ⟨w.heap.size, 0, none⟩) (by simp <;> omega)).trans (by go_simp)
  have z1 : w9.frozen? ⟨w.heap.size, 1, none⟩ = false := (f9.frozen (p := ⟨w.heap.size, 1, none⟩) (by simp <;> omega)).trans (by go_simp)
  have z2 : w9.frozen? ⟨w.heap.size, 2, none⟩ = false := (f9.frozen (p := ⟨w.heap.size, 2, none⟩) (by simp <;> omega)).trans (by go_simp)
  have z3 : w9.frozen? ⟨w.heap.size, 3, none⟩ = false := (f9.frozen (p := ⟨w.heap.size, 3, none⟩) (by simp <;> omega)).trans (by go_simp)
  have F9 : Below w.heap.size w w9 := by
    refine Below.trans ?_ (f9.mono (by simp <;> omega))
    repeat (first | exact Below.refl _ _ | refine Below.drew ?_ | refine Below.alloc ?_ (by simp <;> omega) _)
  clear f9
  go_wp2
  refine bodyPost_ret (results_cell2 rfl rfl ?_) rfl ⟨rfl, ?_⟩
  · go_simp
  repeat (first | exact F9 | refine Below.setCell ?_ (by exact Nat.le_refl _) _)
set_option maxHeartbeats 1600000 in
set_option maxRecDepth 100000 in
theorem rp_ok_1 (s : ByteArray) (t : ByteArray) (hN : NumIs s 255 1 t) (x : Nat) (t2 : ByteArray) (hN2 : NumIs t 1 x t2) (n : Nat) (t3 : ByteArray) (hN3 : NumIs t2 4096 n t3) (hn : (n : Int) ≤ (t3.size : Int)) (ht : ((t3.extract n t3.size).toList == ([] : List UInt8)) = true) (hR : RChk 1 (t3.extract 0 n) ((x : Int) == 1) 0 0) (w : World) :
    Calls Try.prog 54 #[.string s] w fun e w' => e = .returned (.tuple #[.agg #[.int .i64 1, .string (t3.extract 0 n), .bool ((x : Int) == 1), .int .i64 0], .int .i64 0]) ∧ Below w.heap.size w w' := by
  unfold NumIs RChk at *
  go_enter Try.func54, Try.ntmps54
  go_wp2_with (first
    | (go_at_call 80; with_reducible refine (hN _).mono ?_; rintro e w1 ⟨rfl, rfl⟩)
    | (go_at_call 80; with_reducible refine (hN2 _).mono ?_; rintro e w2 ⟨rfl, rfl⟩)
    | (go_at_call 80; with_reducible refine (hN3 _).mono ?_; rintro e w3 ⟨rfl, rfl⟩))
  go_at_call 60
  with_reducible refine (hR _).mono ?_
  rintro e w9 ⟨rfl, f9⟩
  have c00 : w9.cell? ⟨w.heap.size, 0, none⟩ = some (.int .i64 0) := (f9.cell (p := ⟨w.heap.size, 0, none⟩) (by simp <;> omega)).trans (by go_simp)
  have c01 : w9.cell? ⟨w.heap.size, 1, none⟩ = some (.string ⟨#[]⟩) := (f9.cell (p := ⟨w.heap.size, 1, none⟩) (by simp <;> omega)).trans (by go_simp)
  have c02 : w9.cell? ⟨w.heap.size, 2, none⟩ = some (.bool false) := (f9.cell (p := ⟨w.heap.size, 2, none⟩) (by simp <;> omega)).trans (by go_simp)
  have c03 : w9.cell? ⟨w.heap.size, 3, none⟩ = some (.int .i64 0) := (f9.cell (p := ⟨w.heap.size, 3, none⟩) (by simp <;> omega)).trans (by go_simp)
  have c10 : w9.cell? ⟨w.heap.size + 1, 0, none⟩ = some (.int .i64 0) := (f9.cell (p := ⟨w.heap.size + 1, 0, none⟩) (by simp <;> omega)).trans (by go_simp)
  have c11 : w9.cell? ⟨w.heap.size + 1, 1, none⟩ = some (.string ⟨#[]⟩) := (f9.cell (p := ⟨w.heap.size + 1, 1, none⟩) (by simp <;> omega)).trans (by go_simp)
  have c12 : w9.cell? ⟨w.heap.size + 1, 2, none⟩ = some (.bool false) := (f9.cell (p := ⟨w.heap.size + 1, 2, none⟩) (by simp <;> omega)).trans (by go_simp)
  have c13 : w9.cell? ⟨w.heap.size + 1, 3, none⟩ = some (.int .i64 0) := (f9.cell (p := ⟨w.heap.size + 1, 3, none⟩) (by simp <;> omega)).trans (by go_simp)
  have c20 : w9.cell? ⟨w.heap.size + 2, 0, none⟩ = some (.int .i64 1) := (f9.cell (p := ⟨w.heap.size + 2, 0, none⟩) (by simp <;> omega)).trans (by go_simp)
  have c21 : w9.cell? ⟨w.heap.size + 2, 1, none⟩ = some (.string (t3.extract 0 n)) := (f9.cell (p := ⟨w.heap.size + 2, 1, none⟩) (by simp <;> omega)).trans (by go_simp)
  have c22 : w9.cell? ⟨w.heap.size + 2, 2, none⟩ = some (.bool ((x : Int) == 1)) := (f9.cell (p := ⟨w.heap.size + 2, 2, none⟩) (by simp <;> omega)).trans (by go_simp)
  have c23 : w9.cell? ⟨w.heap.size + 2, 3, none⟩ = some (.int .i64 0) := (f9.cell (p := ⟨w.heap.size + 2, 3, none⟩) (by simp <;> omega)).trans (by go_simp)
  have z0 : w9.frozen? ⟨w.heap.size, 0, none⟩ = false := (f9.frozen (p := ⟨w.heap.size, 0, none⟩) (by simp <;> omega)).trans (by go_simp)
  have z1 : w9.frozen? ⟨w.heap.size, 1, none⟩ = false := (f9.frozen (p := ⟨w.heap.size, 1, none⟩) (by simp <;> omega)).trans (by go_simp)
  have z2 : w9.frozen? ⟨w.heap.size, 2, none⟩ = false := (f9.frozen (p := ⟨w.heap.size, 2, none⟩) (by simp <;> omega)).trans (by go_simp)
  have z3 : w9.frozen? ⟨w.heap.size, 3, none⟩ = false := (f9.frozen (p := ⟨w.heap.size, 3, none⟩) (by simp <;> omega)).trans (by go_simp)
  have F9 : Below w.heap.size w w9 := by
    refine Below.trans ?_ (f9.mono (by simp <;> omega))
    repeat (first | exact Below.refl _ _ | refine Below.drew ?_ | refine Below.alloc ?_ (by simp <;> omega) _)
  clear f9
  go_wp2
  refine bodyPost_ret (results_cell2 rfl rfl ?_) rfl ⟨rfl, ?_⟩
  · go_simp
  repeat (first | exact F9 | refine Below.setCell ?_ (by exact Nat.le_refl _) _)
set_option maxHeartbeats 1600000 in
set_option maxRecDepth 100000 in
theorem rp_e2_2 (s : ByteArray) (t : ByteArray) (hN : NumIs s 255 2 t) (x : Nat) (t2 : ByteArray) (e2 : Nat) (he : ¬ (e2 : Int) = 0) (hN2 : NumNot t 1 x t2 e2) (w : World) :
    Calls Try.prog 54 #[.string s] w fun e w' => e = .returned (.tuple #[.agg #[.int .i64 0, .string ⟨#[]⟩, .bool false, .int .i64 0], .int .i64 e2]) ∧ Below w.heap.size w w' := by
  unfold NumIs NumNot at *
  go_enter Try.func54, Try.ntmps54
  go_wp2_with (first
    | (go_at_call 80; with_reducible refine (hN _).mono ?_; rintro e w1 ⟨rfl, rfl⟩)
    | (go_at_call 80; with_reducible refine (hN2 _).mono ?_; rintro e w2 ⟨rfl, rfl⟩))
  refine bodyPost_ret (results_cell2 rfl rfl ?_) rfl ⟨rfl, ?_⟩
  · go_simp
  repeat (first | exact Below.refl _ _ | refine Below.drew ?_ | refine Below.alloc ?_ (by simp <;> omega) _ | refine Below.setCell ?_ (by simp <;> omega) _)
set_option maxHeartbeats 1600000 in
set_option maxRecDepth 100000 in
theorem rp_e3_2 (s : ByteArray) (t : ByteArray) (hN : NumIs s 255 2 t) (x : Nat) (t2 : ByteArray) (hN2 : NumIs t 1 x t2) (n : Nat) (t3 : ByteArray) (e3 : Nat) (he : ¬ (e3 : Int) = 0) (hN3 : NumNot t2 4096 n t3 e3) (w : World) :
    Calls Try.prog 54 #[.string s] w fun e w' => e = .returned (.tuple #[.agg #[.int .i64 0, .string ⟨#[]⟩, .bool false, .int .i64 0], .int .i64 e3]) ∧ Below w.heap.size w w' := by
  unfold NumIs NumNot at *
  go_enter Try.func54, Try.ntmps54
  go_wp2_with (first
    | (go_at_call 80; with_reducible refine (hN _).mono ?_; rintro e w1 ⟨rfl, rfl⟩)
    | (go_at_call 80; with_reducible refine (hN2 _).mono ?_; rintro e w2 ⟨rfl, rfl⟩)
    | (go_at_call 80; with_reducible refine (hN3 _).mono ?_; rintro e w3 ⟨rfl, rfl⟩))
  refine bodyPost_ret (results_cell2 rfl rfl ?_) rfl ⟨rfl, ?_⟩
  · go_simp
  repeat (first | exact Below.refl _ _ | refine Below.drew ?_ | refine Below.alloc ?_ (by simp <;> omega) _ | refine Below.setCell ?_ (by simp <;> omega) _)
set_option maxHeartbeats 1600000 in
set_option maxRecDepth 100000 in
theorem rp_long_2 (s : ByteArray) (t : ByteArray) (hN : NumIs s 255 2 t) (x : Nat) (t2 : ByteArray) (hN2 : NumIs t 1 x t2) (n : Nat) (t3 : ByteArray) (hN3 : NumIs t2 4096 n t3) (hn : (t3.size : Int) < (n : Int)) (w : World) :
    Calls Try.prog 54 #[.string s] w fun e w' => e = .returned (.tuple #[.agg #[.int .i64 0, .string ⟨#[]⟩, .bool false, .int .i64 0], .int .i64 2]) ∧ Below w.heap.size w w' := by
  unfold NumIs at *
  go_enter Try.func54, Try.ntmps54
  go_wp2_with (first
    | (go_at_call 80; with_reducible refine (hN _).mono ?_; rintro e w1 ⟨rfl, rfl⟩)
    | (go_at_call 80; with_reducible refine (hN2 _).mono ?_; rintro e w2 ⟨rfl, rfl⟩)
    | (go_at_call 80; with_reducible refine (hN3 _).mono ?_; rintro e w3 ⟨rfl, rfl⟩))
  refine bodyPost_ret (results_cell2 rfl rfl ?_) rfl ⟨rfl, ?_⟩
  · go_simp
  repeat (first | exact Below.refl _ _ | refine Below.drew ?_ | refine Below.alloc ?_ (by simp <;> omega) _ | refine Below.setCell ?_ (by simp <;> omega) _)
set_option maxHeartbeats 1600000 in
set_option maxRecDepth 100000 in
theorem rp_trail_2 (s : ByteArray) (t : ByteArray) (hN : NumIs s 255 2 t) (x : Nat) (t2 : ByteArray) (hN2 : NumIs t 1 x t2) (n : Nat) (t3 : ByteArray) (hN3 : NumIs t2 4096 n t3) (hn : (n : Int) ≤ (t3.size : Int)) (ht : ((t3.extract n t3.size).toList == ([] : List UInt8)) = false) (w : World) :
    Calls Try.prog 54 #[.string s] w fun e w' => e = .returned (.tuple #[.agg #[.int .i64 0, .string ⟨#[]⟩, .bool false, .int .i64 0], .int .i64 3]) ∧ Below w.heap.size w w' := by
  unfold NumIs at *
  go_enter Try.func54, Try.ntmps54
  go_wp2_with (first
    | (go_at_call 80; with_reducible refine (hN _).mono ?_; rintro e w1 ⟨rfl, rfl⟩)
    | (go_at_call 80; with_reducible refine (hN2 _).mono ?_; rintro e w2 ⟨rfl, rfl⟩)
    | (go_at_call 80; with_reducible refine (hN3 _).mono ?_; rintro e w3 ⟨rfl, rfl⟩))
  refine bodyPost_ret (results_cell2 rfl rfl ?_) rfl ⟨rfl, ?_⟩
  · go_simp
  repeat (first | exact Below.refl _ _ | refine Below.drew ?_ | refine Below.alloc ?_ (by simp <;> omega) _ | refine Below.setCell ?_ (by simp <;> omega) _)
set_option maxHeartbeats 1600000 in
set_option maxRecDepth 100000 in
theorem rp_chk_2 (s : ByteArray) (t : ByteArray) (hN : NumIs s 255 2 t) (x : Nat) (t2 : ByteArray) (hN2 : NumIs t 1 x t2) (n : Nat) (t3 : ByteArray) (hN3 : NumIs t2 4096 n t3) (hn : (n : Int) ≤ (t3.size : Int)) (ht : ((t3.extract n t3.size).toList == ([] : List UInt8)) = true) (y : Nat) (hy : ¬ (y : Int) = 0) (hR : RChk 2 (t3.extract 0 n) ((x : Int) == 1) 0 y) (w : World) :
    Calls Try.prog 54 #[.string s] w fun e w' => e = .returned (.tuple #[.agg #[.int .i64 0, .string ⟨#[]⟩, .bool false, .int .i64 0], .int .i64 y]) ∧ Below w.heap.size w w' := by
  unfold NumIs RChk at *
  go_enter Try.func54, Try.ntmps54
  go_wp2_with (first
    | (go_at_call 80; with_reducible refine (hN _).mono ?_; rintro e w1 ⟨rfl, rfl⟩)
    | (go_at_call 80; with_reducible refine (hN2 _).mono ?_; rintro e w2 ⟨rfl, rfl⟩)
    | (go_at_call 80; with_reducible refine (hN3 _).mono ?_; rintro e w3 ⟨rfl, rfl⟩))
  go_at_call 60
  with_reducible refine (hR _).mono ?_
  rintro e w9 ⟨rfl, f9⟩
  have c00 : w9.cell? ⟨w.heap.size, 0, none⟩ = some (.int .i64 0) := (f9.cell (p := ⟨w.heap.size, 0, none⟩) (by simp <;> omega)).trans (by go_simp)
  have c01 : w9.cell? ⟨w.heap.size, 1, none⟩ = some (.string ⟨#[]⟩) := (f9.cell (p := ⟨w.heap.size, 1, none⟩) (by simp <;> omega)).trans (by go_simp)
  have c02 : w9.cell? ⟨w.heap.size, 2, none⟩ = some (.bool false) := (f9.cell (p := ⟨w.heap.size, 2, none⟩) (by simp <;> omega)).trans (by go_simp)
  have c03 : w9.cell? ⟨w.heap.size, 3, none⟩ = some (.int .i64 0) := (f9.cell (p := ⟨w.heap.size, 3, none⟩) (by simp <;> omega)).trans (by go_simp)
  have c10 : w9.cell? ⟨w.heap.size + 1, 0, none⟩ = some (.int .i64 0) := (f9.cell (p := ⟨w.heap.size + 1, 0, none⟩) (by simp <;> omega)).trans (by go_simp)
  have c11 : w9.cell? ⟨w.heap.size + 1, 1, none⟩ = some (.string ⟨#[]⟩) := (f9.cell (p := ⟨w.heap.size + 1, 1, none⟩) (by simp <;> omega)).trans (by go_simp)
  have c12 : w9.cell? ⟨w.heap.size + 1, 2, none⟩ = some (.bool false) := (f9.cell (p := ⟨w.heap.size + 1, 2, none⟩) (by simp <;> omega)).trans (by go_simp)
  have c13 : w9.cell? ⟨w.heap.size + 1, 3, none⟩ = some (.int .i64 0) := (f9.cell (p := ⟨w.heap.size + 1, 3, none⟩) (by simp <;> omega)).trans (by go_simp)
  have c20 : w9.cell? ⟨w.heap.size + 2, 0, none⟩ = some (.int .i64 2) := (f9.cell (p := ⟨w.heap.size + 2, 0, none⟩) (by simp <;> omega)).trans (by go_simp)
  have c21 : w9.cell? ⟨w.heap.size + 2, 1, none⟩ = some (.string (t3.extract 0 n)) := (f9.cell (p := ⟨w.heap.size + 2, 1, none⟩) (by simp <;> omega)).trans (by go_simp)
  have c22 : w9.cell? ⟨w.heap.size + 2, 2, none⟩ = some (.bool ((x : Int) == 1)) := (f9.cell (p := ⟨w.heap.size + 2, 2, none⟩) (by simp <;> omega)).trans (by go_simp)
  have c23 : w9.cell? ⟨w.heap.size + 2, 3, none⟩ = some (.int .i64 0) := (f9.cell (p := ⟨w.heap.size + 2, 3, none⟩) (by simp <;> omega)).trans (by go_simp)
  have z0 : w9.frozen? ⟨w.heap.size, 0, none⟩ = false := (f9.frozen (p := ⟨w.heap.size, 0, none⟩) (by simp <;> omega)).trans (by go_simp)
  have z1 : w9.frozen? ⟨w.heap.size, 1, none⟩ = false := (f9.frozen (p := ⟨w.heap.size, 1, none⟩) (by simp <;> omega)).trans (by go_simp)
  have z2 : w9.frozen? ⟨w.heap.size, 2, none⟩ = false := (f9.frozen (p := ⟨w.heap.size, 2, none⟩) (by simp <;> omega)).trans (by go_simp)
  have z3 : w9.frozen? ⟨w.heap.size, 3, none⟩ = false := (f9.frozen (p := ⟨w.heap.size, 3, none⟩) (by simp <;> omega)).trans (by go_simp)
  have F9 : Below w.heap.size w w9 := by
    refine Below.trans ?_ (f9.mono (by simp <;> omega))
    repeat (first | exact Below.refl _ _ | refine Below.drew ?_ | refine Below.alloc ?_ (by simp <;> omega) _)
  clear f9
  go_wp2
  refine bodyPost_ret (results_cell2 rfl rfl ?_) rfl ⟨rfl, ?_⟩
  · go_simp
  repeat (first | exact F9 | refine Below.setCell ?_ (by exact Nat.le_refl _) _)
set_option maxHeartbeats 1600000 in
set_option maxRecDepth 100000 in
theorem rp_ok_2 (s : ByteArray) (t : ByteArray) (hN : NumIs s 255 2 t) (x : Nat) (t2 : ByteArray) (hN2 : NumIs t 1 x t2) (n : Nat) (t3 : ByteArray) (hN3 : NumIs t2 4096 n t3) (hn : (n : Int) ≤ (t3.size : Int)) (ht : ((t3.extract n t3.size).toList == ([] : List UInt8)) = true) (hR : RChk 2 (t3.extract 0 n) ((x : Int) == 1) 0 0) (w : World) :
    Calls Try.prog 54 #[.string s] w fun e w' => e = .returned (.tuple #[.agg #[.int .i64 2, .string (t3.extract 0 n), .bool ((x : Int) == 1), .int .i64 0], .int .i64 0]) ∧ Below w.heap.size w w' := by
  unfold NumIs RChk at *
  go_enter Try.func54, Try.ntmps54
  go_wp2_with (first
    | (go_at_call 80; with_reducible refine (hN _).mono ?_; rintro e w1 ⟨rfl, rfl⟩)
    | (go_at_call 80; with_reducible refine (hN2 _).mono ?_; rintro e w2 ⟨rfl, rfl⟩)
    | (go_at_call 80; with_reducible refine (hN3 _).mono ?_; rintro e w3 ⟨rfl, rfl⟩))
  go_at_call 60
  with_reducible refine (hR _).mono ?_
  rintro e w9 ⟨rfl, f9⟩
  have c00 : w9.cell? ⟨w.heap.size, 0, none⟩ = some (.int .i64 0) := (f9.cell (p := ⟨w.heap.size, 0, none⟩) (by simp <;> omega)).trans (by go_simp)
  have c01 : w9.cell? ⟨w.heap.size, 1, none⟩ = some (.string ⟨#[]⟩) := (f9.cell (p := ⟨w.heap.size, 1, none⟩) (by simp <;> omega)).trans (by go_simp)
  have c02 : w9.cell? ⟨w.heap.size, 2, none⟩ = some (.bool false) := (f9.cell (p := ⟨w.heap.size, 2, none⟩) (by simp <;> omega)).trans (by go_simp)
  have c03 : w9.cell? ⟨w.heap.size, 3, none⟩ = some (.int .i64 0) := (f9.cell (p := ⟨w.heap.size, 3, none⟩) (by simp <;> omega)).trans (by go_simp)
  have c10 : w9.cell? ⟨w.heap.size + 1, 0, none⟩ = some (.int .i64 0) := (f9.cell (p := ⟨w.heap.size + 1, 0, none⟩) (by simp <;> omega)).trans (by go_simp)
  have c11 : w9.cell? ⟨w.heap.size + 1, 1, none⟩ = some (.string ⟨#[]⟩) := (f9.cell (p := ⟨w.heap.size + 1, 1, none⟩) (by simp <;> omega)).trans (by go_simp)
  have c12 : w9.cell? ⟨w.heap.size + 1, 2, none⟩ = some (.bool false) := (f9.cell (p := ⟨w.heap.size + 1, 2, none⟩) (by simp <;> omega)).trans (by go_simp)
  have c13 : w9.cell? ⟨w.heap.size + 1, 3, none⟩ = some (.int .i64 0) := (f9.cell (p := ⟨w.heap.size + 1, 3, none⟩) (by simp <;> omega)).trans (by go_simp)
  have c20 : w9.cell? ⟨w.heap.size + 2, 0, none⟩ = some (.int .i64 2) := (f9.cell (p := ⟨w.heap.size + 2, 0, none⟩) (by simp <;> omega)).trans (by go_simp)
  have c21 : w9.cell? ⟨w.heap.size + 2, 1, none⟩ = some (.string (t3.extract 0 n)) := (f9.cell (p := ⟨w.heap.size + 2, 1, none⟩) (by simp <;> omega)).trans (by go_simp)
  have c22 : w9.cell? ⟨w.heap.size + 2, 2, none⟩ = some (.bool ((x : Int) == 1)) := (f9.cell (p := ⟨w.heap.size + 2, 2, none⟩) (by simp <;> omega)).trans (by go_simp)
  have c23 : w9.cell? ⟨w.heap.size + 2, 3, none⟩ = some (.int .i64 0) := (f9.cell (p := ⟨w.heap.size + 2, 3, none⟩) (by simp <;> omega)).trans (by go_simp)
  have z0 : w9.frozen? ⟨w.heap.size, 0, none⟩ = false := (f9.frozen (p := ⟨w.heap.size, 0, none⟩) (by simp <;> omega)).trans (by go_simp)
  have z1 : w9.frozen? ⟨w.heap.size, 1, none⟩ = false := (f9.frozen (p := ⟨w.heap.size, 1, none⟩) (by simp <;> omega)).trans (by go_simp)
  have z2 : w9.frozen? ⟨w.heap.size, 2, none⟩ = false := (f9.frozen (p := ⟨w.heap.size, 2, none⟩) (by simp <;> omega)).trans (by go_simp)
  have z3 : w9.frozen? ⟨w.heap.size, 3, none⟩ = false := (f9.frozen (p := ⟨w.heap.size, 3, none⟩) (by simp <;> omega)).trans (by go_simp)
  have F9 : Below w.heap.size w w9 := by
    refine Below.trans ?_ (f9.mono (by simp <;> omega))
    repeat (first | exact Below.refl _ _ | refine Below.drew ?_ | refine Below.alloc ?_ (by simp <;> omega) _)
  clear f9
  go_wp2
  refine bodyPost_ret (results_cell2 rfl rfl ?_) rfl ⟨rfl, ?_⟩
  · go_simp
  repeat (first | exact F9 | refine Below.setCell ?_ (by exact Nat.le_refl _) _)
set_option maxHeartbeats 1600000 in
set_option maxRecDepth 100000 in
theorem rp_e2_3 (s : ByteArray) (t : ByteArray) (hN : NumIs s 255 3 t) (x : Nat) (t2 : ByteArray) (e2 : Nat) (he : ¬ (e2 : Int) = 0) (hN2 : NumNot t 4611686018427387904 x t2 e2) (w : World) :
    Calls Try.prog 54 #[.string s] w fun e w' => e = .returned (.tuple #[.agg #[.int .i64 0, .string ⟨#[]⟩, .bool false, .int .i64 0], .int .i64 e2]) ∧ Below w.heap.size w w' := by
  unfold NumIs NumNot at *
  go_enter Try.func54, Try.ntmps54
  go_wp2_with (first
    | (go_at_call 80; with_reducible refine (hN _).mono ?_; rintro e w1 ⟨rfl, rfl⟩)
    | (go_at_call 80; with_reducible refine (hN2 _).mono ?_; rintro e w2 ⟨rfl, rfl⟩))
  refine bodyPost_ret (results_cell2 rfl rfl ?_) rfl ⟨rfl, ?_⟩
  · go_simp
  repeat (first | exact Below.refl _ _ | refine Below.drew ?_ | refine Below.alloc ?_ (by simp <;> omega) _ | refine Below.setCell ?_ (by simp <;> omega) _)
set_option maxHeartbeats 1600000 in
set_option maxRecDepth 100000 in
theorem rp_trail_3 (s : ByteArray) (t : ByteArray) (hN : NumIs s 255 3 t) (x : Nat) (t2 : ByteArray) (hN2 : NumIs t 4611686018427387904 x t2) (ht : (t2.toList == ([] : List UInt8)) = false) (w : World) :
    Calls Try.prog 54 #[.string s] w fun e w' => e = .returned (.tuple #[.agg #[.int .i64 0, .string ⟨#[]⟩, .bool false, .int .i64 0], .int .i64 3]) ∧ Below w.heap.size w w' := by
  unfold NumIs at *
  go_enter Try.func54, Try.ntmps54
  go_wp2_with (first
    | (go_at_call 80; with_reducible refine (hN _).mono ?_; rintro e w1 ⟨rfl, rfl⟩)
    | (go_at_call 80; with_reducible refine (hN2 _).mono ?_; rintro e w2 ⟨rfl, rfl⟩))
  refine bodyPost_ret (results_cell2 rfl rfl ?_) rfl ⟨rfl, ?_⟩
  · go_simp
  repeat (first | exact Below.refl _ _ | refine Below.drew ?_ | refine Below.alloc ?_ (by simp <;> omega) _ | refine Below.setCell ?_ (by simp <;> omega) _)
set_option maxHeartbeats 1600000 in
set_option maxRecDepth 100000 in
theorem rp_chk_3 (s : ByteArray) (t : ByteArray) (hN : NumIs s 255 3 t) (x : Nat) (t2 : ByteArray) (hN2 : NumIs t 4611686018427387904 x t2) (ht : (t2.toList == ([] : List UInt8)) = true) (y : Nat) (hy : ¬ (y : Int) = 0) (hR : RChk 3 ⟨#[]⟩ false x y) (w : World) :
    Calls Try.prog 54 #[.string s] w fun e w' => e = .returned (.tuple #[.agg #[.int .i64 0, .string ⟨#[]⟩, .bool false, .int .i64 0], .int .i64 y]) ∧ Below w.heap.size w w' := by
  unfold NumIs RChk at *
  go_enter Try.func54, Try.ntmps54
  go_wp2_with (first
    | (go_at_call 80; with_reducible refine (hN _).mono ?_; rintro e w1 ⟨rfl, rfl⟩)
    | (go_at_call 80; with_reducible refine (hN2 _).mono ?_; rintro e w2 ⟨rfl, rfl⟩))
  go_at_call 60
  with_reducible refine (hR _).mono ?_
  rintro e w9 ⟨rfl, f9⟩
  have c00 : w9.cell? ⟨w.heap.size, 0, none⟩ = some (.int .i64 0) := (f9.cell (p := ⟨w.heap.size, 0, none⟩) (by simp <;> omega)).trans (by go_simp)
  have c01 : w9.cell? ⟨w.heap.size, 1, none⟩ = some (.string ⟨#[]⟩) := (f9.cell (p := ⟨w.heap.size, 1, none⟩) (by simp <;> omega)).trans (by go_simp)
  have c02 : w9.cell? ⟨w.heap.size, 2, none⟩ = some (.bool false) := (f9.cell (p := ⟨w.heap.size, 2, none⟩) (by simp <;> omega)).trans (by go_simp)
  have c03 : w9.cell? ⟨w.heap.size, 3, none⟩ = some (.int .i64 0) := (f9.cell (p := ⟨w.heap.size, 3, none⟩) (by simp <;> omega)).trans (by go_simp)
  have c10 : w9.cell? ⟨w.heap.size + 1, 0, none⟩ = some (.int .i64 0) := (f9.cell (p := ⟨w.heap.size + 1, 0, none⟩) (by simp <;> omega)).trans (by go_simp)
  have c11 : w9.cell? ⟨w.heap.size + 1, 1, none⟩ = some (.string ⟨#[]⟩) := (f9.cell (p := ⟨w.heap.size + 1, 1, none⟩) (by simp <;> omega)).trans (by go_simp)
  have c12 : w9.cell? ⟨w.heap.size + 1, 2, none⟩ = some (.bool false) := (f9.cell (p := ⟨w.heap.size + 1, 2, none⟩) (by simp <;> omega)).trans (by go_simp)
  have c13 : w9.cell? ⟨w.heap.size + 1, 3, none⟩ = some (.int .i64 0) := (f9.cell (p := ⟨w.heap.size + 1, 3, none⟩) (by simp <;> omega)).trans (by go_simp)
  have c20 : w9.cell? ⟨w.heap.size + 2, 0, none⟩ = some (.int .i64 3) := (f9.cell (p := ⟨w.heap.size + 2, 0, none⟩) (by simp <;> omega)).trans (by go_simp)
  have c21 : w9.cell? ⟨w.heap.size + 2, 1, none⟩ = some (.string ⟨#[]⟩) := (f9.cell (p := ⟨w.heap.size + 2, 1, none⟩) (by simp <;> omega)).trans (by go_simp)
  have c22 : w9.cell? ⟨w.heap.size + 2, 2, none⟩ = some (.bool false) := (f9.cell (p := ⟨w.heap.size + 2, 2, none⟩) (by simp <;> omega)).trans (by go_simp)
  have c23 : w9.cell? ⟨w.heap.size + 2, 3, none⟩ = some (.int .i64 x) := (f9.cell (p := ⟨w.heap.size + 2, 3, none⟩) (by simp <;> omega)).trans (by go_simp)
  have z0 : w9.frozen? ⟨w.heap.size, 0, none⟩ = false := (f9.frozen (p := ⟨w.heap.size, 0, none⟩) (by simp <;> omega)).trans (by go_simp)
  have z1 : w9.frozen? ⟨w.heap.size, 1, none⟩ = false := (f9.frozen (p := ⟨w.heap.size, 1, none⟩) (by simp <;> omega)).trans (by go_simp)
  have z2 : w9.frozen? ⟨w.heap.size, 2, none⟩ = false := (f9.frozen (p := ⟨w.heap.size, 2, none⟩) (by simp <;> omega)).trans (by go_simp)
  have z3 : w9.frozen? ⟨w.heap.size, 3, none⟩ = false := (f9.frozen (p := ⟨w.heap.size, 3, none⟩) (by simp <;> omega)).trans (by go_simp)
  have F9 : Below w.heap.size w w9 := by
    refine Below.trans ?_ (f9.mono (by simp <;> omega))
    repeat (first | exact Below.refl _ _ | refine Below.drew ?_ | refine Below.alloc ?_ (by simp <;> omega) _)
  clear f9
  go_wp2
  refine bodyPost_ret (results_cell2 rfl rfl ?_) rfl ⟨rfl, ?_⟩
  · go_simp
  repeat (first | exact F9 | refine Below.setCell ?_ (by exact Nat.le_refl _) _)
set_option maxHeartbeats 1600000 in
set_option maxRecDepth 100000 in
theorem rp_ok_3 (s : ByteArray) (t : ByteArray) (hN : NumIs s 255 3 t) (x : Nat) (t2 : ByteArray) (hN2 : NumIs t 4611686018427387904 x t2) (ht : (t2.toList == ([] : List UInt8)) = true) (hR : RChk 3 ⟨#[]⟩ false x 0) (w : World) :
    Calls Try.prog 54 #[.string s] w fun e w' => e = .returned (.tuple #[.agg #[.int .i64 3, .string ⟨#[]⟩, .bool false, .int .i64 x], .int .i64 0]) ∧ Below w.heap.size w w' := by
  unfold NumIs RChk at *
  go_enter Try.func54, Try.ntmps54
  go_wp2_with (first
    | (go_at_call 80; with_reducible refine (hN _).mono ?_; rintro e w1 ⟨rfl, rfl⟩)
    | (go_at_call 80; with_reducible refine (hN2 _).mono ?_; rintro e w2 ⟨rfl, rfl⟩))
  go_at_call 60
  with_reducible refine (hR _).mono ?_
  rintro e w9 ⟨rfl, f9⟩
  have c00 : w9.cell? ⟨w.heap.size, 0, none⟩ = some (.int .i64 0) := (f9.cell (p := ⟨w.heap.size, 0, none⟩) (by simp <;> omega)).trans (by go_simp)
  have c01 : w9.cell? ⟨w.heap.size, 1, none⟩ = some (.string ⟨#[]⟩) := (f9.cell (p := ⟨w.heap.size, 1, none⟩) (by simp <;> omega)).trans (by go_simp)
  have c02 : w9.cell? ⟨w.heap.size, 2, none⟩ = some (.bool false) := (f9.cell (p := ⟨w.heap.size, 2, none⟩) (by simp <;> omega)).trans (by go_simp)
  have c03 : w9.cell? ⟨w.heap.size, 3, none⟩ = some (.int .i64 0) := (f9.cell (p := ⟨w.heap.size, 3, none⟩) (by simp <;> omega)).trans (by go_simp)
  have c10 : w9.cell? ⟨w.heap.size + 1, 0, none⟩ = some (.int .i64 0) := (f9.cell (p := ⟨w.heap.size + 1, 0, none⟩) (by simp <;> omega)).trans (by go_simp)
  have c11 : w9.cell? ⟨w.heap.size + 1, 1, none⟩ = some (.string ⟨#[]⟩) := (f9.cell (p := ⟨w.heap.size + 1, 1, none⟩) (by simp <;> omega)).trans (by go_simp)
  have c12 : w9.cell? ⟨w.heap.size + 1, 2, none⟩ = some (.bool false) := (f9.cell (p := ⟨w.heap.size + 1, 2, none⟩) (by simp <;> omega)).trans (by go_simp)
  have c13 : w9.cell? ⟨w.heap.size + 1, 3, none⟩ = some (.int .i64 0) := (f9.cell (p := ⟨w.heap.size + 1, 3, none⟩) (by simp <;> omega)).trans (by go_simp)
  have c20 : w9.cell? ⟨w.heap.size + 2, 0, none⟩ = some (.int .i64 3) := (f9.cell (p := ⟨w.heap.size + 2, 0, none⟩) (by simp <;> omega)).trans (by go_simp)
  have c21 : w9.cell? ⟨w.heap.size + 2, 1, none⟩ = some (.string ⟨#[]⟩) := (f9.cell (p := ⟨w.heap.size + 2, 1, none⟩) (by simp <;> omega)).trans (by go_simp)
  have c22 : w9.cell? ⟨w.heap.size + 2, 2, none⟩ = some (.bool false) := (f9.cell (p := ⟨w.heap.size + 2, 2, none⟩) (by simp <;> omega)).trans (by go_simp)
  have c23 : w9.cell? ⟨w.heap.size + 2, 3, none⟩ = some (.int .i64 x) := (f9.cell (p := ⟨w.heap.size + 2, 3, none⟩) (by simp <;> omega)).trans (by go_simp)
  have z0 : w9.frozen? ⟨w.heap.size, 0, none⟩ = false := (f9.frozen (p := ⟨w.heap.size, 0, none⟩) (by simp <;> omega)).trans (by go_simp)
  have z1 : w9.frozen? ⟨w.heap.size, 1, none⟩ = false := (f9.frozen (p := ⟨w.heap.size, 1, none⟩) (by simp <;> omega)).trans (by go_simp)
  have z2 : w9.frozen? ⟨w.heap.size, 2, none⟩ = false := (f9.frozen (p := ⟨w.heap.size, 2, none⟩) (by simp <;> omega)).trans (by go_simp)
  have z3 : w9.frozen? ⟨w.heap.size, 3, none⟩ = false := (f9.frozen (p := ⟨w.heap.size, 3, none⟩) (by simp <;> omega)).trans (by go_simp)
  have F9 : Below w.heap.size w w9 := by
    refine Below.trans ?_ (f9.mono (by simp <;> omega))
    repeat (first | exact Below.refl _ _ | refine Below.drew ?_ | refine Below.alloc ?_ (by simp <;> omega) _)
  clear f9
  go_wp2
  refine bodyPost_ret (results_cell2 rfl rfl ?_) rfl ⟨rfl, ?_⟩
  · go_simp
  repeat (first | exact F9 | refine Below.setCell ?_ (by exact Nat.le_refl _) _)
set_option maxHeartbeats 1600000 in
set_option maxRecDepth 100000 in
theorem rp_e3_4 (s : ByteArray) (t : ByteArray) (hN : NumIs s 255 4 t) (n : Nat) (t3 : ByteArray) (e3 : Nat) (he : ¬ (e3 : Int) = 0) (hN3 : NumNot t 4096 n t3 e3) (w : World) :
    Calls Try.prog 54 #[.string s] w fun e w' => e = .returned (.tuple #[.agg #[.int .i64 0, .string ⟨#[]⟩, .bool false, .int .i64 0], .int .i64 e3]) ∧ Below w.heap.size w w' := by
  unfold NumIs NumNot at *
  go_enter Try.func54, Try.ntmps54
  go_wp2_with (first
    | (go_at_call 80; with_reducible refine (hN _).mono ?_; rintro e w1 ⟨rfl, rfl⟩)
    | (go_at_call 80; with_reducible refine (hN3 _).mono ?_; rintro e w3 ⟨rfl, rfl⟩))
  refine bodyPost_ret (results_cell2 rfl rfl ?_) rfl ⟨rfl, ?_⟩
  · go_simp
  repeat (first | exact Below.refl _ _ | refine Below.drew ?_ | refine Below.alloc ?_ (by simp <;> omega) _ | refine Below.setCell ?_ (by simp <;> omega) _)
set_option maxHeartbeats 1600000 in
set_option maxRecDepth 100000 in
theorem rp_long_4 (s : ByteArray) (t : ByteArray) (hN : NumIs s 255 4 t) (n : Nat) (t3 : ByteArray) (hN3 : NumIs t 4096 n t3) (hn : (t3.size : Int) < (n : Int)) (w : World) :
    Calls Try.prog 54 #[.string s] w fun e w' => e = .returned (.tuple #[.agg #[.int .i64 0, .string ⟨#[]⟩, .bool false, .int .i64 0], .int .i64 2]) ∧ Below w.heap.size w w' := by
  unfold NumIs at *
  go_enter Try.func54, Try.ntmps54
  go_wp2_with (first
    | (go_at_call 80; with_reducible refine (hN _).mono ?_; rintro e w1 ⟨rfl, rfl⟩)
    | (go_at_call 80; with_reducible refine (hN3 _).mono ?_; rintro e w3 ⟨rfl, rfl⟩))
  refine bodyPost_ret (results_cell2 rfl rfl ?_) rfl ⟨rfl, ?_⟩
  · go_simp
  repeat (first | exact Below.refl _ _ | refine Below.drew ?_ | refine Below.alloc ?_ (by simp <;> omega) _ | refine Below.setCell ?_ (by simp <;> omega) _)
set_option maxHeartbeats 1600000 in
set_option maxRecDepth 100000 in
theorem rp_trail_4 (s : ByteArray) (t : ByteArray) (hN : NumIs s 255 4 t) (n : Nat) (t3 : ByteArray) (hN3 : NumIs t 4096 n t3) (hn : (n : Int) ≤ (t3.size : Int)) (ht : ((t3.extract n t3.size).toList == ([] : List UInt8)) = false) (w : World) :
    Calls Try.prog 54 #[.string s] w fun e w' => e = .returned (.tuple #[.agg #[.int .i64 0, .string ⟨#[]⟩, .bool false, .int .i64 0], .int .i64 3]) ∧ Below w.heap.size w w' := by
  unfold NumIs at *
  go_enter Try.func54, Try.ntmps54
  go_wp2_with (first
    | (go_at_call 80; with_reducible refine (hN _).mono ?_; rintro e w1 ⟨rfl, rfl⟩)
    | (go_at_call 80; with_reducible refine (hN3 _).mono ?_; rintro e w3 ⟨rfl, rfl⟩))
  refine bodyPost_ret (results_cell2 rfl rfl ?_) rfl ⟨rfl, ?_⟩
  · go_simp
  repeat (first | exact Below.refl _ _ | refine Below.drew ?_ | refine Below.alloc ?_ (by simp <;> omega) _ | refine Below.setCell ?_ (by simp <;> omega) _)
set_option maxHeartbeats 1600000 in
set_option maxRecDepth 100000 in
theorem rp_chk_4 (s : ByteArray) (t : ByteArray) (hN : NumIs s 255 4 t) (n : Nat) (t3 : ByteArray) (hN3 : NumIs t 4096 n t3) (hn : (n : Int) ≤ (t3.size : Int)) (ht : ((t3.extract n t3.size).toList == ([] : List UInt8)) = true) (y : Nat) (hy : ¬ (y : Int) = 0) (hR : RChk 4 (t3.extract 0 n) false 0 y) (w : World) :
    Calls Try.prog 54 #[.string s] w fun e w' => e = .returned (.tuple #[.agg #[.int .i64 0, .string ⟨#[]⟩, .bool false, .int .i64 0], .int .i64 y]) ∧ Below w.heap.size w w' := by
  unfold NumIs RChk at *
  go_enter Try.func54, Try.ntmps54
  go_wp2_with (first
    | (go_at_call 80; with_reducible refine (hN _).mono ?_; rintro e w1 ⟨rfl, rfl⟩)
    | (go_at_call 80; with_reducible refine (hN3 _).mono ?_; rintro e w3 ⟨rfl, rfl⟩))
  go_at_call 60
  with_reducible refine (hR _).mono ?_
  rintro e w9 ⟨rfl, f9⟩
  have c00 : w9.cell? ⟨w.heap.size, 0, none⟩ = some (.int .i64 0) := (f9.cell (p := ⟨w.heap.size, 0, none⟩) (by simp <;> omega)).trans (by go_simp)
  have c01 : w9.cell? ⟨w.heap.size, 1, none⟩ = some (.string ⟨#[]⟩) := (f9.cell (p := ⟨w.heap.size, 1, none⟩) (by simp <;> omega)).trans (by go_simp)
  have c02 : w9.cell? ⟨w.heap.size, 2, none⟩ = some (.bool false) := (f9.cell (p := ⟨w.heap.size, 2, none⟩) (by simp <;> omega)).trans (by go_simp)
  have c03 : w9.cell? ⟨w.heap.size, 3, none⟩ = some (.int .i64 0) := (f9.cell (p := ⟨w.heap.size, 3, none⟩) (by simp <;> omega)).trans (by go_simp)
  have c10 : w9.cell? ⟨w.heap.size + 1, 0, none⟩ = some (.int .i64 0) := (f9.cell (p := ⟨w.heap.size + 1, 0, none⟩) (by simp <;> omega)).trans (by go_simp)
  have c11 : w9.cell? ⟨w.heap.size + 1, 1, none⟩ = some (.string ⟨#[]⟩) := (f9.cell (p := ⟨w.heap.size + 1, 1, none⟩) (by simp <;> omega)).trans (by go_simp)
  have c12 : w9.cell? ⟨w.heap.size + 1, 2, none⟩ = some (.bool false) := (f9.cell (p := ⟨w.heap.size + 1, 2, none⟩) (by simp <;> omega)).trans (by go_simp)
  have c13 : w9.cell? ⟨w.heap.size + 1, 3, none⟩ = some (.int .i64 0) := (f9.cell (p := ⟨w.heap.size + 1, 3, none⟩) (by simp <;> omega)).trans (by go_simp)
  have c20 : w9.cell? ⟨w.heap.size + 2, 0, none⟩ = some (.int .i64 4) := (f9.cell (p := ⟨w.heap.size + 2, 0, none⟩) (by simp <;> omega)).trans (by go_simp)
  have c21 : w9.cell? ⟨w.heap.size + 2, 1, none⟩ = some (.string (t3.extract 0 n)) := (f9.cell (p := ⟨w.heap.size + 2, 1, none⟩) (by simp <;> omega)).trans (by go_simp)
  have c22 : w9.cell? ⟨w.heap.size + 2, 2, none⟩ = some (.bool false) := (f9.cell (p := ⟨w.heap.size + 2, 2, none⟩) (by simp <;> omega)).trans (by go_simp)
  have c23 : w9.cell? ⟨w.heap.size + 2, 3, none⟩ = some (.int .i64 0) := (f9.cell (p := ⟨w.heap.size + 2, 3, none⟩) (by simp <;> omega)).trans (by go_simp)
  have z0 : w9.frozen? ⟨w.heap.size, 0, none⟩ = false := (f9.frozen (p := ⟨w.heap.size, 0, none⟩) (by simp <;> omega)).trans (by go_simp)
  have z1 : w9.frozen? ⟨w.heap.size, 1, none⟩ = false := (f9.frozen (p := ⟨w.heap.size, 1, none⟩) (by simp <;> omega)).trans (by go_simp)
  have z2 : w9.frozen? ⟨w.heap.size, 2, none⟩ = false := (f9.frozen (p := ⟨w.heap.size, 2, none⟩) (by simp <;> omega)).trans (by go_simp)
  have z3 : w9.frozen? ⟨w.heap.size, 3, none⟩ = false := (f9.frozen (p := ⟨w.heap.size, 3, none⟩) (by simp <;> omega)).trans (by go_simp)
  have F9 : Below w.heap.size w w9 := by
    refine Below.trans ?_ (f9.mono (by simp <;> omega))
    repeat (first | exact Below.refl _ _ | refine Below.drew ?_ | refine Below.alloc ?_ (by simp <;> omega) _)
  clear f9
  go_wp2
  refine bodyPost_ret (results_cell2 rfl rfl ?_) rfl ⟨rfl, ?_⟩
  · go_simp
  repeat (first | exact F9 | refine Below.setCell ?_ (by exact Nat.le_refl _) _)
set_option maxHeartbeats 1600000 in
set_option maxRecDepth 100000 in
theorem rp_ok_4 (s : ByteArray) (t : ByteArray) (hN : NumIs s 255 4 t) (n : Nat) (t3 : ByteArray) (hN3 : NumIs t 4096 n t3) (hn : (n : Int) ≤ (t3.size : Int)) (ht : ((t3.extract n t3.size).toList == ([] : List UInt8)) = true) (hR : RChk 4 (t3.extract 0 n) false 0 0) (w : World) :
    Calls Try.prog 54 #[.string s] w fun e w' => e = .returned (.tuple #[.agg #[.int .i64 4, .string (t3.extract 0 n), .bool false, .int .i64 0], .int .i64 0]) ∧ Below w.heap.size w w' := by
  unfold NumIs RChk at *
  go_enter Try.func54, Try.ntmps54
  go_wp2_with (first
    | (go_at_call 80; with_reducible refine (hN _).mono ?_; rintro e w1 ⟨rfl, rfl⟩)
    | (go_at_call 80; with_reducible refine (hN3 _).mono ?_; rintro e w3 ⟨rfl, rfl⟩))
  go_at_call 60
  with_reducible refine (hR _).mono ?_
  rintro e w9 ⟨rfl, f9⟩
  have c00 : w9.cell? ⟨w.heap.size, 0, none⟩ = some (.int .i64 0) := (f9.cell (p := ⟨w.heap.size, 0, none⟩) (by simp <;> omega)).trans (by go_simp)
  have c01 : w9.cell? ⟨w.heap.size, 1, none⟩ = some (.string ⟨#[]⟩) := (f9.cell (p := ⟨w.heap.size, 1, none⟩) (by simp <;> omega)).trans (by go_simp)
  have c02 : w9.cell? ⟨w.heap.size, 2, none⟩ = some (.bool false) := (f9.cell (p := ⟨w.heap.size, 2, none⟩) (by simp <;> omega)).trans (by go_simp)
  have c03 : w9.cell? ⟨w.heap.size, 3, none⟩ = some (.int .i64 0) := (f9.cell (p := ⟨w.heap.size, 3, none⟩) (by simp <;> omega)).trans (by go_simp)
  have c10 : w9.cell? ⟨w.heap.size + 1, 0, none⟩ = some (.int .i64 0) := (f9.cell (p := ⟨w.heap.size + 1, 0, none⟩) (by simp <;> omega)).trans (by go_simp)
  have c11 : w9.cell? ⟨w.heap.size + 1, 1, none⟩ = some (.string ⟨#[]⟩) := (f9.cell (p := ⟨w.heap.size + 1, 1, none⟩) (by simp <;> omega)).trans (by go_simp)
  have c12 : w9.cell? ⟨w.heap.size + 1, 2, none⟩ = some (.bool false) := (f9.cell (p := ⟨w.heap.size + 1, 2, none⟩) (by simp <;> omega)).trans (by go_simp)
  have c13 : w9.cell? ⟨w.heap.size + 1, 3, none⟩ = some (.int .i64 0) := (f9.cell (p := ⟨w.heap.size + 1, 3, none⟩) (by simp <;> omega)).trans (by go_simp)
  have c20 : w9.cell? ⟨w.heap.size + 2, 0, none⟩ = some (.int .i64 4) := (f9.cell (p := ⟨w.heap.size + 2, 0, none⟩) (by simp <;> omega)).trans (by go_simp)
  have c21 : w9.cell? ⟨w.heap.size + 2, 1, none⟩ = some (.string (t3.extract 0 n)) := (f9.cell (p := ⟨w.heap.size + 2, 1, none⟩) (by simp <;> omega)).trans (by go_simp)
  have c22 : w9.cell? ⟨w.heap.size + 2, 2, none⟩ = some (.bool false) := (f9.cell (p := ⟨w.heap.size + 2, 2, none⟩) (by simp <;> omega)).trans (by go_simp)
  have c23 : w9.cell? ⟨w.heap.size + 2, 3, none⟩ = some (.int .i64 0) := (f9.cell (p := ⟨w.heap.size + 2, 3, none⟩) (by simp <;> omega)).trans (by go_simp)
  have z0 : w9.frozen? ⟨w.heap.size, 0, none⟩ = false := (f9.frozen (p := ⟨w.heap.size, 0, none⟩) (by simp <;> omega)).trans (by go_simp)
  have z1 : w9.frozen? ⟨w.heap.size, 1, none⟩ = false := (f9.frozen (p := ⟨w.heap.size, 1, none⟩) (by simp <;> omega)).trans (by go_simp)
  have z2 : w9.frozen? ⟨w.heap.size, 2, none⟩ = false := (f9.frozen (p := ⟨w.heap.size, 2, none⟩) (by simp <;> omega)).trans (by go_simp)
  have z3 : w9.frozen? ⟨w.heap.size, 3, none⟩ = false := (f9.frozen (p := ⟨w.heap.size, 3, none⟩) (by simp <;> omega)).trans (by go_simp)
  have F9 : Below w.heap.size w w9 := by
    refine Below.trans ?_ (f9.mono (by simp <;> omega))
    repeat (first | exact Below.refl _ _ | refine Below.drew ?_ | refine Below.alloc ?_ (by simp <;> omega) _)
  clear f9
  go_wp2
  refine bodyPost_ret (results_cell2 rfl rfl ?_) rfl ⟨rfl, ?_⟩
  · go_simp
  repeat (first | exact F9 | refine Below.setCell ?_ (by exact Nat.le_refl _) _)
set_option maxHeartbeats 1600000 in
set_option maxRecDepth 100000 in
theorem rp_trail_5 (s : ByteArray) (t : ByteArray) (hN : NumIs s 255 5 t) (ht : (t.toList == ([] : List UInt8)) = false) (w : World) :
    Calls Try.prog 54 #[.string s] w fun e w' => e = .returned (.tuple #[.agg #[.int .i64 0, .string ⟨#[]⟩, .bool false, .int .i64 0], .int .i64 3]) ∧ Below w.heap.size w w' := by
  unfold NumIs at *
  go_enter Try.func54, Try.ntmps54
  go_wp2_with (first
    | (go_at_call 80; with_reducible refine (hN _).mono ?_; rintro e w1 ⟨rfl, rfl⟩))
  refine bodyPost_ret (results_cell2 rfl rfl ?_) rfl ⟨rfl, ?_⟩
  · go_simp
  repeat (first | exact Below.refl _ _ | refine Below.drew ?_ | refine Below.alloc ?_ (by simp <;> omega) _ | refine Below.setCell ?_ (by simp <;> omega) _)
set_option maxHeartbeats 1600000 in
set_option maxRecDepth 100000 in
theorem rp_ok_5 (s : ByteArray) (t : ByteArray) (hN : NumIs s 255 5 t) (ht : (t.toList == ([] : List UInt8)) = true) (hR : RChk 5 ⟨#[]⟩ false 0 0) (w : World) :
    Calls Try.prog 54 #[.string s] w fun e w' => e = .returned (.tuple #[.agg #[.int .i64 5, .string ⟨#[]⟩, .bool false, .int .i64 0], .int .i64 0]) ∧ Below w.heap.size w w' := by
  unfold NumIs RChk at *
  go_enter Try.func54, Try.ntmps54
  go_wp2_with (first
    | (go_at_call 80; with_reducible refine (hN _).mono ?_; rintro e w1 ⟨rfl, rfl⟩))
  go_at_call 60
  with_reducible refine (hR _).mono ?_
  rintro e w9 ⟨rfl, f9⟩
  have c00 : w9.cell? ⟨w.heap.size, 0, none⟩ = some (.int .i64 0) := (f9.cell (p := ⟨w.heap.size, 0, none⟩) (by simp <;> omega)).trans (by go_simp)
  have c01 : w9.cell? ⟨w.heap.size, 1, none⟩ = some (.string ⟨#[]⟩) := (f9.cell (p := ⟨w.heap.size, 1, none⟩) (by simp <;> omega)).trans (by go_simp)
  have c02 : w9.cell? ⟨w.heap.size, 2, none⟩ = some (.bool false) := (f9.cell (p := ⟨w.heap.size, 2, none⟩) (by simp <;> omega)).trans (by go_simp)
  have c03 : w9.cell? ⟨w.heap.size, 3, none⟩ = some (.int .i64 0) := (f9.cell (p := ⟨w.heap.size, 3, none⟩) (by simp <;> omega)).trans (by go_simp)
  have c10 : w9.cell? ⟨w.heap.size + 1, 0, none⟩ = some (.int .i64 0) := (f9.cell (p := ⟨w.heap.size + 1, 0, none⟩) (by simp <;> omega)).trans (by go_simp)
  have c11 : w9.cell? ⟨w.heap.size + 1, 1, none⟩ = some (.string ⟨#[]⟩) := (f9.cell (p := ⟨w.heap.size + 1, 1, none⟩) (by simp <;> omega)).trans (by go_simp)
  have c12 : w9.cell? ⟨w.heap.size + 1, 2, none⟩ = some (.bool false) := (f9.cell (p := ⟨w.heap.size + 1, 2, none⟩) (by simp <;> omega)).trans (by go_simp)
  have c13 : w9.cell? ⟨w.heap.size + 1, 3, none⟩ = some (.int .i64 0) := (f9.cell (p := ⟨w.heap.size + 1, 3, none⟩) (by simp <;> omega)).trans (by go_simp)
  have c20 : w9.cell? ⟨w.heap.size + 2, 0, none⟩ = some (.int .i64 5) := (f9.cell (p := ⟨w.heap.size + 2, 0, none⟩) (by simp <;> omega)).trans (by go_simp)
  have c21 : w9.cell? ⟨w.heap.size + 2, 1, none⟩ = some (.string ⟨#[]⟩) := (f9.cell (p := ⟨w.heap.size + 2, 1, none⟩) (by simp <;> omega)).trans (by go_simp)
  have c22 : w9.cell? ⟨w.heap.size + 2, 2, none⟩ = some (.bool false) := (f9.cell (p := ⟨w.heap.size + 2, 2, none⟩) (by simp <;> omega)).trans (by go_simp)
  have c23 : w9.cell? ⟨w.heap.size + 2, 3, none⟩ = some (.int .i64 0) := (f9.cell (p := ⟨w.heap.size + 2, 3, none⟩) (by simp <;> omega)).trans (by go_simp)
  have z0 : w9.frozen? ⟨w.heap.size, 0, none⟩ = false := (f9.frozen (p := ⟨w.heap.size, 0, none⟩) (by simp <;> omega)).trans (by go_simp)
  have z1 : w9.frozen? ⟨w.heap.size, 1, none⟩ = false := (f9.frozen (p := ⟨w.heap.size, 1, none⟩) (by simp <;> omega)).trans (by go_simp)
  have z2 : w9.frozen? ⟨w.heap.size, 2, none⟩ = false := (f9.frozen (p := ⟨w.heap.size, 2, none⟩) (by simp <;> omega)).trans (by go_simp)
  have z3 : w9.frozen? ⟨w.heap.size, 3, none⟩ = false := (f9.frozen (p := ⟨w.heap.size, 3, none⟩) (by simp <;> omega)).trans (by go_simp)
  have F9 : Below w.heap.size w w9 := by
    refine Below.trans ?_ (f9.mono (by simp <;> omega))
    repeat (first | exact Below.refl _ _ | refine Below.drew ?_ | refine Below.alloc ?_ (by simp <;> omega) _)
  clear f9
  go_wp2
  refine bodyPost_ret (results_cell2 rfl rfl ?_) rfl ⟨rfl, ?_⟩
  · go_simp
  repeat (first | exact F9 | refine Below.setCell ?_ (by exact Nat.le_refl _) _)
end Go.Proofs.Ytajccobndgechaa.Cod
