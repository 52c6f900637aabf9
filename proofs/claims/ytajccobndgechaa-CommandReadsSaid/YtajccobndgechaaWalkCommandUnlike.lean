/- CommandUnlike: the walk, by what each call means. No condition. -/
import Derived.Test.YtajccobndgechaaWalkCommandEpochs
import Derived.Test.YtajccobndgechaaRCheck
import Derived.Test.YtajccobndgechaaIfEq
namespace Go.Proofs.Ytajccobndgechaa.Cod
open Go.RowKit
theorem numB_app {x y : Nat} {a b : List UInt8} (hx : x < 9223372036854775808) (hy : y < 9223372036854775808) (h : numB x ++ a = numB y ++ b) : x = y ∧ a = b := by
  have h1 := hd_numB hx a
  rw [h, hd_numB hy b] at h1
  have e : x = y := (Prod.mk.inj h1).1.symm
  subst e
  exact ⟨rfl, List.append_cancel_left h⟩
theorem bit_inj {r r' : Bool} (h : bit r = bit r') : r = r' := by cases r <;> cases r' <;> simp_all [bit]
theorem bit_lt (r : Bool) : bit r < 9223372036854775808 := by cases r <;> simp [bit]
theorem txt_inj {s t : ByteArray} (hs : s.size ≤ 4096) (ht : t.size ≤ 4096) (h : txt s = txt t) : s = t := bl_inj (numB_app (by omega) (by omega) h).2
def rest : Cmd → List UInt8
  | .block s r => numB (bit r) ++ txt s
  | .cert s r => numB (bit r) ++ txt s
  | .clock n => numB n.toNat
  | .mark s => txt s
  | _ => []
theorem body_rest (c : Cmd) (h : c.chk = 0) : c.body = numB c.kind ++ rest c := by
  cases c with
  | none => exact absurd h (by simp [Cmd.chk])
  | other => exact absurd h (by simp [Cmd.chk])
  | unmark => simp [Cmd.body, Cmd.kind, rest]
  | _ => rfl
theorem mark_size {s : ByteArray} (h : (Cmd.mark s).chk = 0) : s.size ≤ 4096 := by
  by_cases k : 4096 < s.size
  · simp only [Cmd.chk, if_pos k] at h; omega
  · omega
theorem clock_range {n : Int} (h : (Cmd.clock n).chk = 0) : 0 ≤ n ∧ n ≤ 1073741824 := by
  by_cases k : 0 ≤ n ∧ n ≤ 1073741824
  · exact k
  · simp only [Cmd.chk, if_neg k] at h; omega
theorem kind_lt (c : Cmd) : c.kind < 9223372036854775808 := by cases c <;> simp [Cmd.kind]
theorem bytes_inj {c d : Cmd} (hc : c.chk = 0) (hd : d.chk = 0) (h : c.body = d.body) : c = d := by
  rw [body_rest c hc, body_rest d hd] at h
  obtain ⟨hk, hr⟩ := numB_app (kind_lt c) (kind_lt d) h
  cases c with
  | none => exact absurd hc (by simp [Cmd.chk])
  | other => exact absurd hc (by simp [Cmd.chk])
  | unmark =>
    cases d with
    | unmark => rfl
    | none => exact absurd hd (by simp [Cmd.chk])
    | other => exact absurd hd (by simp [Cmd.chk])
    | _ => exact absurd hk (by simp [Cmd.kind])
  | block s r =>
    cases d with
    | block t q =>
      obtain ⟨h1, h2⟩ := numB_app (bit_lt r) (bit_lt q) hr
      rw [bit_inj h1, txt_inj (small_zero.1 hc) (small_zero.1 hd) h2]
    | none => exact absurd hd (by simp [Cmd.chk])
    | other => exact absurd hd (by simp [Cmd.chk])
    | _ => exact absurd hk (by simp [Cmd.kind])
  | cert s r =>
    cases d with
    | cert t q =>
      obtain ⟨h1, h2⟩ := numB_app (bit_lt r) (bit_lt q) hr
      rw [bit_inj h1, txt_inj (small_zero.1 hc) (small_zero.1 hd) h2]
    | none => exact absurd hd (by simp [Cmd.chk])
    | other => exact absurd hd (by simp [Cmd.chk])
    | _ => exact absurd hk (by simp [Cmd.kind])
  | clock n =>
    cases d with
    | clock o =>
      have h1 := clock_range hc
      have h2 := clock_range hd
      have e : numB n.toNat ++ [] = numB o.toNat ++ [] := by rw [List.append_nil, List.append_nil]; exact hr
      have := (numB_app (by omega) (by omega) e).1
      rw [show n = o by omega]
    | none => exact absurd hd (by simp [Cmd.chk])
    | other => exact absurd hd (by simp [Cmd.chk])
    | _ => exact absurd hk (by simp [Cmd.kind])
  | mark s =>
    cases d with
    | mark t => rw [txt_inj (mark_size hc) (mark_size hd) hr]
    | none => exact absurd hd (by simp [Cmd.chk])
    | other => exact absurd hd (by simp [Cmd.chk])
    | _ => exact absurd hk (by simp [Cmd.kind])
theorem eqGuard_cmd (c d : Cmd) (h : c.chk = 0) (x y : Operand) (w : World) : (eqGuard .eql 88 x y c.val d.val).run Try.prog w = .ok () w := by
  cases c with
  | none => exact absurd h (by simp [Cmd.chk])
  | _ => rfl
def Two (w : World) (x y : Array Value) (v : World) : Prop :=
  v.heap[w.heap.size]? = some (.cells x 92 (0, 0)) ∧ v.heap[w.heap.size + 1]? = some (.cells y 92 (0, 0)) ∧ w.heap.size + 1 < v.heap.size ∧ Below w.heap.size w v
abbrev US (w : World) (x0 x1 x2 x3 y0 y1 y2 y3 : Value) (v : World) : Prop :=
  v.cell? ⟨w.heap.size, 0, none⟩ = some x0 ∧ v.cell? ⟨w.heap.size, 1, none⟩ = some x1 ∧ v.cell? ⟨w.heap.size, 2, none⟩ = some x2 ∧ v.cell? ⟨w.heap.size, 3, none⟩ = some x3 ∧
  v.cell? ⟨w.heap.size + 1, 0, none⟩ = some y0 ∧ v.cell? ⟨w.heap.size + 1, 1, none⟩ = some y1 ∧ v.cell? ⟨w.heap.size + 1, 2, none⟩ = some y2 ∧ v.cell? ⟨w.heap.size + 1, 3, none⟩ = some y3 ∧
  Two w #[x0, x1, x2, x3] #[y0, y1, y2, y3] v
theorem US_of {w v : World} {x0 x1 x2 x3 y0 y1 y2 y3 : Value} (h : Two w #[x0, x1, x2, x3] #[y0, y1, y2, y3] v) : US w x0 x1 x2 x3 y0 y1 y2 y3 v := by
  obtain ⟨a0, a1, a2, a3, _⟩ := four_cells h.1
  obtain ⟨b0, b1, b2, b3, _⟩ := four_cells h.2.1
  exact ⟨a0, a1, a2, a3, b0, b1, b2, b3, h⟩
theorem Two.step {w v v' : World} {x y : Array Value} (h : Two w x y v) (f : Below v.heap.size v v') : Two w x y v' :=
  ⟨(f.block _ (by have := h.2.2.1; omega)).trans h.1, (f.block _ h.2.2.1).trans h.2.1, Nat.lt_of_lt_of_le h.2.2.1 f.size, h.2.2.2.trans (f.mono (by have := h.2.2.1; omega))⟩
theorem Two.drew {w v : World} {x y : Array Value} (h : Two w x y v) : Two w x y v.drew := ⟨h.1, h.2.1, h.2.2.1, h.2.2.2.drew⟩
theorem US_step {w v v' : World} {x0 x1 x2 x3 y0 y1 y2 y3 : Value} (h : US w x0 x1 x2 x3 y0 y1 y2 y3 v) (f : Below v.heap.size v v') : US w x0 x1 x2 x3 y0 y1 y2 y3 v' := US_of (Two.step h.2.2.2.2.2.2.2.2 f)
theorem Two.store {w v : World} {x y : Array Value} (h : Two w x y v) (c0 c1 c2 c3 d0 d1 d2 d3 : Value) (hx : x.size = 4) (hy : y.size = 4) :
    ∃ v', (((((((v.setCell ⟨w.heap.size, 0, none⟩ c0).setCell ⟨w.heap.size, 1, none⟩ c1).setCell ⟨w.heap.size, 2, none⟩ c2).setCell ⟨w.heap.size, 3, none⟩ c3).setCell ⟨w.heap.size + 1, 0, none⟩ d0).setCell ⟨w.heap.size + 1, 1, none⟩ d1).setCell ⟨w.heap.size + 1, 2, none⟩ d2).setCell ⟨w.heap.size + 1, 3, none⟩ d3 = v' ∧
      Two w #[c0, c1, c2, c3] #[d0, d1, d2, d3] v' := by
  obtain ⟨xl⟩ := x
  match xl, hx with
  | [x0, x1, x2, x3], _ =>
    obtain ⟨yl⟩ := y
    match yl, hy with
    | [y0, y1, y2, y3], _ =>
      obtain ⟨v1, e1, b1, F1, l1⟩ := store4 h.1 h.2.2.2 (Nat.le_refl _) c0 c1 c2 c3
      have hd : v1.heap[w.heap.size + 1]? = some (.cells #[y0, y1, y2, y3] 92 (0, 0)) := by
        rw [← e1, Below.heap_setCell _ _ _ _ (by simp), Below.heap_setCell _ _ _ _ (by simp), Below.heap_setCell _ _ _ _ (by simp), Below.heap_setCell _ _ _ _ (by simp)]
        exact h.2.1
      obtain ⟨v2, e2, b2, F2, l2⟩ := store4 hd F1 (by omega) d0 d1 d2 d3
      refine ⟨v2, by rw [e1, e2], ?_, b2, by have := h.2.2.1; omega, F2⟩
      rw [← e2, Below.heap_setCell _ _ _ _ (by simp), Below.heap_setCell _ _ _ _ (by simp), Below.heap_setCell _ _ _ _ (by simp), Below.heap_setCell _ _ _ _ (by simp)]
      exact b1
set_option maxHeartbeats 3200000 in
set_option maxRecDepth 100000 in
theorem unlike_bad1 (k m : Int) (s s' u u' : ByteArray) (r r' q q' : Bool) (n n' o o' : Int)
    (hB : ∀ v, Calls Try.prog 58 #[.agg #[.int .i64 k, .string s, .bool r, .int .i64 n]] v fun e w' => e = .returned (.agg #[.int .i64 k, .string s', .bool r', .int .i64 n']) ∧ Below v.heap.size v w')
    (hB2 : ∀ v, Calls Try.prog 58 #[.agg #[.int .i64 m, .string u, .bool q, .int .i64 o]] v fun e w' => e = .returned (.agg #[.int .i64 m, .string u', .bool q', .int .i64 o']) ∧ Below v.heap.size v w')
    (x : Int) (hx : ¬ x = 0) (hR : ∀ v, Calls Try.prog 60 #[.agg #[.int .i64 k, .string s', .bool r', .int .i64 n']] v fun e w' => e = .returned (.int .i64 x) ∧ Below v.heap.size v w')
    (w : World) :
    Calls Try.prog 13 #[.agg #[.int .i64 k, .string s, .bool r, .int .i64 n], .agg #[.int .i64 m, .string u, .bool q, .int .i64 o]] w fun e w' => e = .returned (.bool true) ∧ Below w.heap.size w w' := by
  go_enter Try.func13, Try.ntmps13
  go_wp2_with (fail)
  obtain ⟨w0, hw0⟩ : ∃ w0, (w.alloc (.cells #[.int .i64 k, .string s, .bool r, .int .i64 n] 92)).alloc (.cells #[.int .i64 m, .string u, .bool q, .int .i64 o] 92) = w0 := ⟨_, rfl⟩
  have T0 : Two w #[.int .i64 k, .string s, .bool r, .int .i64 n] #[.int .i64 m, .string u, .bool q, .int .i64 o] w0 := by
    subst hw0
    exact ⟨(Below.heap_alloc _ _ _ (by simp)).trans (heap_alloc_new w _), (by simp : (w.alloc (.cells #[.int .i64 k, .string s, .bool r, .int .i64 n] 92)).heap.size = w.heap.size + 1) ▸ heap_alloc_new _ _, by simp, ((Below.refl _ _).alloc (Nat.le_refl _) _).alloc (by simp) _⟩
  simp only [hw0]
  clear hw0
  go_at_call 52
  with_reducible refine (C_awake20 _).mono ?_
  rintro e w1 ⟨rfl, f1⟩
  have T1 := T0.step f1
  obtain ⟨c10, c11, c12, c13, z10, z11, z12, z13⟩ := four_cells T1.1
  obtain ⟨e10, e11, e12, e13, y10, y11, y12, y13⟩ := four_cells T1.2.1
  have T1d := T1.drew
  clear f1 T0
  go_wp2_with (fail)
  go_region_with (first
    | (go_at_call 58; ((with_reducible refine (hB _).mono ?_); rintro e w2 ⟨rfl, f2⟩; have T2 := T1d.step f2; obtain ⟨c20, c21, c22, c23, z20, z21, z22, z23⟩ := four_cells T2.1; obtain ⟨e20, e21, e22, e23, y20, y21, y22, y23⟩ := four_cells T2.2.1))
    | (go_at_call 58; ((with_reducible refine (hB2 _).mono ?_); rintro e w3 ⟨rfl, f3⟩; have T3 := T2.step f3; obtain ⟨c30, c31, c32, c33, z30, z31, z32, z33⟩ := four_cells T3.1; obtain ⟨e30, e31, e32, e33, y30, y31, y32, y33⟩ := four_cells T3.2.1)))
  all_goals
    obtain ⟨w4, e4, T4⟩ := T3.store (.int .i64 k) (.string s') (.bool r') (.int .i64 n') (.int .i64 m) (.string u') (.bool q') (.int .i64 o') rfl rfl
    rw [e4]
    clear e4 T1 T1d T2 T3 f2 f3 c10 c11 c12 c13 z10 z11 z12 z13 e10 e11 e12 e13 y10 y11 y12 y13 c20 c21 c22 c23 z20 z21 z22 z23 e20 e21 e22 e23 y20 y21 y22 y23 c30 c31 c32 c33 z30 z31 z32 z33 e30 e31 e32 e33 y30 y31 y32 y33
    obtain ⟨a0, a1, a2, a3, b0, b1, b2, b3, _⟩ := US_of T4
    go_wp2_with (first
      | (go_at_call 60; ((with_reducible refine (hR _).mono ?_); rintro e w5 ⟨rfl, f5⟩; have T5 := T4.step f5; obtain ⟨g0, g1, g2, g3, h0, h1, h2, h3, _⟩ := US_of T5))
      | (go_at_call 60; ((with_reducible refine (hR2 _).mono ?_); rintro e w6 ⟨rfl, f6⟩; have T6 := T5.step f6)))
    go_ret
    exact ⟨rfl, T5.2.2.2⟩
set_option maxHeartbeats 3200000 in
set_option maxRecDepth 100000 in
theorem unlike_bad2 (k m : Int) (s s' u u' : ByteArray) (r r' q q' : Bool) (n n' o o' : Int)
    (hB : ∀ v, Calls Try.prog 58 #[.agg #[.int .i64 k, .string s, .bool r, .int .i64 n]] v fun e w' => e = .returned (.agg #[.int .i64 k, .string s', .bool r', .int .i64 n']) ∧ Below v.heap.size v w')
    (hB2 : ∀ v, Calls Try.prog 58 #[.agg #[.int .i64 m, .string u, .bool q, .int .i64 o]] v fun e w' => e = .returned (.agg #[.int .i64 m, .string u', .bool q', .int .i64 o']) ∧ Below v.heap.size v w')
    (hR : ∀ v, Calls Try.prog 60 #[.agg #[.int .i64 k, .string s', .bool r', .int .i64 n']] v fun e w' => e = .returned (.int .i64 0) ∧ Below v.heap.size v w')
    (y : Int) (hy : ¬ y = 0) (hR2 : ∀ v, Calls Try.prog 60 #[.agg #[.int .i64 m, .string u', .bool q', .int .i64 o']] v fun e w' => e = .returned (.int .i64 y) ∧ Below v.heap.size v w')
    (w : World) :
    Calls Try.prog 13 #[.agg #[.int .i64 k, .string s, .bool r, .int .i64 n], .agg #[.int .i64 m, .string u, .bool q, .int .i64 o]] w fun e w' => e = .returned (.bool true) ∧ Below w.heap.size w w' := by
  go_enter Try.func13, Try.ntmps13
  go_wp2_with (fail)
  obtain ⟨w0, hw0⟩ : ∃ w0, (w.alloc (.cells #[.int .i64 k, .string s, .bool r, .int .i64 n] 92)).alloc (.cells #[.int .i64 m, .string u, .bool q, .int .i64 o] 92) = w0 := ⟨_, rfl⟩
  have T0 : Two w #[.int .i64 k, .string s, .bool r, .int .i64 n] #[.int .i64 m, .string u, .bool q, .int .i64 o] w0 := by
    subst hw0
    exact ⟨(Below.heap_alloc _ _ _ (by simp)).trans (heap_alloc_new w _), (by simp : (w.alloc (.cells #[.int .i64 k, .string s, .bool r, .int .i64 n] 92)).heap.size = w.heap.size + 1) ▸ heap_alloc_new _ _, by simp, ((Below.refl _ _).alloc (Nat.le_refl _) _).alloc (by simp) _⟩
  simp only [hw0]
  clear hw0
  go_at_call 52
  with_reducible refine (C_awake20 _).mono ?_
  rintro e w1 ⟨rfl, f1⟩
  have T1 := T0.step f1
  obtain ⟨c10, c11, c12, c13, z10, z11, z12, z13⟩ := four_cells T1.1
  obtain ⟨e10, e11, e12, e13, y10, y11, y12, y13⟩ := four_cells T1.2.1
  have T1d := T1.drew
  clear f1 T0
  go_wp2_with (fail)
  go_region_with (first
    | (go_at_call 58; ((with_reducible refine (hB _).mono ?_); rintro e w2 ⟨rfl, f2⟩; have T2 := T1d.step f2; obtain ⟨c20, c21, c22, c23, z20, z21, z22, z23⟩ := four_cells T2.1; obtain ⟨e20, e21, e22, e23, y20, y21, y22, y23⟩ := four_cells T2.2.1))
    | (go_at_call 58; ((with_reducible refine (hB2 _).mono ?_); rintro e w3 ⟨rfl, f3⟩; have T3 := T2.step f3; obtain ⟨c30, c31, c32, c33, z30, z31, z32, z33⟩ := four_cells T3.1; obtain ⟨e30, e31, e32, e33, y30, y31, y32, y33⟩ := four_cells T3.2.1)))
  all_goals
    obtain ⟨w4, e4, T4⟩ := T3.store (.int .i64 k) (.string s') (.bool r') (.int .i64 n') (.int .i64 m) (.string u') (.bool q') (.int .i64 o') rfl rfl
    rw [e4]
    clear e4 T1 T1d T2 T3 f2 f3 c10 c11 c12 c13 z10 z11 z12 z13 e10 e11 e12 e13 y10 y11 y12 y13 c20 c21 c22 c23 z20 z21 z22 z23 e20 e21 e22 e23 y20 y21 y22 y23 c30 c31 c32 c33 z30 z31 z32 z33 e30 e31 e32 e33 y30 y31 y32 y33
    obtain ⟨a0, a1, a2, a3, b0, b1, b2, b3, _⟩ := US_of T4
    go_wp2_with (first
      | (go_at_call 60; ((with_reducible refine (hR _).mono ?_); rintro e w5 ⟨rfl, f5⟩; have T5 := T4.step f5; obtain ⟨g0, g1, g2, g3, h0, h1, h2, h3, _⟩ := US_of T5))
      | (go_at_call 60; ((with_reducible refine (hR2 _).mono ?_); rintro e w6 ⟨rfl, f6⟩; have T6 := T5.step f6)))
    go_ret
    exact ⟨rfl, T6.2.2.2⟩
set_option maxHeartbeats 3200000 in
set_option maxRecDepth 100000 in
theorem unlike_good (k m : Int) (s s' u u' : ByteArray) (r r' q q' : Bool) (n n' o o' : Int)
    (hB : ∀ v, Calls Try.prog 58 #[.agg #[.int .i64 k, .string s, .bool r, .int .i64 n]] v fun e w' => e = .returned (.agg #[.int .i64 k, .string s', .bool r', .int .i64 n']) ∧ Below v.heap.size v w')
    (hB2 : ∀ v, Calls Try.prog 58 #[.agg #[.int .i64 m, .string u, .bool q, .int .i64 o]] v fun e w' => e = .returned (.agg #[.int .i64 m, .string u', .bool q', .int .i64 o']) ∧ Below v.heap.size v w')
    (hR : ∀ v, Calls Try.prog 60 #[.agg #[.int .i64 k, .string s', .bool r', .int .i64 n']] v fun e w' => e = .returned (.int .i64 0) ∧ Below v.heap.size v w')
    (hR2 : ∀ v, Calls Try.prog 60 #[.agg #[.int .i64 m, .string u', .bool q', .int .i64 o']] v fun e w' => e = .returned (.int .i64 0) ∧ Below v.heap.size v w')
    (c d : Cmd) (hO : ∀ v, Calls Try.prog 55 #[.agg #[.int .i64 k, .string s', .bool r', .int .i64 n']] v fun e w' => e = .returned c.val ∧ Below v.heap.size v w')
    (hO2 : ∀ v, Calls Try.prog 55 #[.agg #[.int .i64 m, .string u', .bool q', .int .i64 o']] v fun e w' => e = .returned d.val ∧ Below v.heap.size v w')
    (sc sd : ByteArray) (b : Bool) (hb : (sc.toList == sd.toList) = b) (hY : ∀ v, Calls Try.prog 56 #[c.val] v fun e w' => e = .returned (.string sc) ∧ Below v.heap.size v w')
    (hY2 : ∀ v, Calls Try.prog 56 #[d.val] v fun e w' => e = .returned (.string sd) ∧ Below v.heap.size v w')
    (hE : ∀ w : World, (binOp .eql 88 c.val d.val).run Try.prog w = .ok (.bool b) w)
    (hG : ∀ (x y : Operand) (w : World), (eqGuard .eql 88 x y c.val d.val).run Try.prog w = .ok () w)
    (w : World) :
    Calls Try.prog 13 #[.agg #[.int .i64 k, .string s, .bool r, .int .i64 n], .agg #[.int .i64 m, .string u, .bool q, .int .i64 o]] w fun e w' => e = .returned (.bool true) ∧ Below w.heap.size w w' := by
  go_enter Try.func13, Try.ntmps13
  go_wp2_with (fail)
  obtain ⟨w0, hw0⟩ : ∃ w0, (w.alloc (.cells #[.int .i64 k, .string s, .bool r, .int .i64 n] 92)).alloc (.cells #[.int .i64 m, .string u, .bool q, .int .i64 o] 92) = w0 := ⟨_, rfl⟩
  have T0 : Two w #[.int .i64 k, .string s, .bool r, .int .i64 n] #[.int .i64 m, .string u, .bool q, .int .i64 o] w0 := by
    subst hw0
    exact ⟨(Below.heap_alloc _ _ _ (by simp)).trans (heap_alloc_new w _), (by simp : (w.alloc (.cells #[.int .i64 k, .string s, .bool r, .int .i64 n] 92)).heap.size = w.heap.size + 1) ▸ heap_alloc_new _ _, by simp, ((Below.refl _ _).alloc (Nat.le_refl _) _).alloc (by simp) _⟩
  simp only [hw0]
  clear hw0
  go_at_call 52
  with_reducible refine (C_awake20 _).mono ?_
  rintro e w1 ⟨rfl, f1⟩
  have T1 := T0.step f1
  obtain ⟨c10, c11, c12, c13, z10, z11, z12, z13⟩ := four_cells T1.1
  obtain ⟨e10, e11, e12, e13, y10, y11, y12, y13⟩ := four_cells T1.2.1
  have T1d := T1.drew
  clear f1 T0
  go_wp2_with (fail)
  go_region_with (first
    | (go_at_call 58; ((with_reducible refine (hB _).mono ?_); rintro e w2 ⟨rfl, f2⟩; have T2 := T1d.step f2; obtain ⟨c20, c21, c22, c23, z20, z21, z22, z23⟩ := four_cells T2.1; obtain ⟨e20, e21, e22, e23, y20, y21, y22, y23⟩ := four_cells T2.2.1))
    | (go_at_call 58; ((with_reducible refine (hB2 _).mono ?_); rintro e w3 ⟨rfl, f3⟩; have T3 := T2.step f3; obtain ⟨c30, c31, c32, c33, z30, z31, z32, z33⟩ := four_cells T3.1; obtain ⟨e30, e31, e32, e33, y30, y31, y32, y33⟩ := four_cells T3.2.1)))
  all_goals
    obtain ⟨w4, e4, T4⟩ := T3.store (.int .i64 k) (.string s') (.bool r') (.int .i64 n') (.int .i64 m) (.string u') (.bool q') (.int .i64 o') rfl rfl
    rw [e4]
    clear e4 T1 T1d T2 T3 f2 f3 c10 c11 c12 c13 z10 z11 z12 z13 e10 e11 e12 e13 y10 y11 y12 y13 c20 c21 c22 c23 z20 z21 z22 z23 e20 e21 e22 e23 y20 y21 y22 y23 c30 c31 c32 c33 z30 z31 z32 z33 e30 e31 e32 e33 y30 y31 y32 y33
    obtain ⟨a0, a1, a2, a3, b0, b1, b2, b3, _⟩ := US_of T4
    go_wp2_with (first
      | (go_at_call 60; ((with_reducible refine (hR _).mono ?_); rintro e w5 ⟨rfl, f5⟩; have T5 := T4.step f5; obtain ⟨g0, g1, g2, g3, h0, h1, h2, h3, _⟩ := US_of T5))
      | (go_at_call 60; ((with_reducible refine (hR2 _).mono ?_); rintro e w6 ⟨rfl, f6⟩; have T6 := T5.step f6)))
    have U6 : US w (.int .i64 k) (.string s') (.bool r') (.int .i64 n') (.int .i64 m) (.string u') (.bool q') (.int .i64 o') w6 := US_of T6
    have V6 := Lib.hid U6
    clear T4 T5 T6 f5 f6 a0 a1 a2 a3 b0 b1 b2 b3 g0 g1 g2 g3 h0 h1 h2 h3 U6
    go_region_held (fun v => v.cell? ⟨w.heap.size, 0, none⟩ = some (.int .i64 k) ∧ v.cell? ⟨w.heap.size, 1, none⟩ = some (.string s') ∧ v.cell? ⟨w.heap.size, 2, none⟩ = some (.bool r') ∧ v.cell? ⟨w.heap.size, 3, none⟩ = some (.int .i64 n') ∧ v.cell? ⟨w.heap.size + 1, 0, none⟩ = some (.int .i64 m) ∧ v.cell? ⟨w.heap.size + 1, 1, none⟩ = some (.string u') ∧ v.cell? ⟨w.heap.size + 1, 2, none⟩ = some (.bool q') ∧ v.cell? ⟨w.heap.size + 1, 3, none⟩ = some (.int .i64 o') ∧ Two w #[.int .i64 k, .string s', .bool r', .int .i64 n'] #[.int .i64 m, .string u', .bool q', .int .i64 o'] v)
      (first | exact US_step ‹US w (.int .i64 k) (.string s') (.bool r') (.int .i64 n') (.int .i64 m) (.string u') (.bool q') (.int .i64 o') _› hw7 | exact US_step V6.out (Below.refl _ _).drew)
      (first
        | (go_at_call 55; ((with_reducible refine (hO _).mono ?_); rintro e w7 ⟨rfl, hw7⟩))
        | (go_at_call 55; ((with_reducible refine (hO2 _).mono ?_); rintro e w7 ⟨rfl, hw7⟩))
        | (go_at_call 56; ((with_reducible refine (hY _).mono ?_); rintro e w7 ⟨rfl, hw7⟩))
        | (go_at_call 56; ((with_reducible refine (hY2 _).mono ?_); rintro e w7 ⟨rfl, hw7⟩)))
    have hS := ‹US w (.int .i64 k) (.string s') (.bool r') (.int .i64 n') (.int .i64 m) (.string u') (.bool q') (.int .i64 o') _›
    go_wp2
    go_ret
    exact ⟨rfl, hS.2.2.2.2.2.2.2.2.2.2.2⟩
theorem W_CommandUnlike (k : Int) (s : ByteArray) (r : Bool) (n : Int) (m : Int) (u : ByteArray) (q : Bool) (o : Int) (_hk : k ≤ 9223372036854775807) (_hk0 : -9223372036854775808 ≤ k) (hs : s.size ≤ 140737488351232) (hn : n ≤ 9223372036854775807) (hn0 : -9223372036854775808 ≤ n)
    (_hm : m ≤ 9223372036854775807) (_hm0 : -9223372036854775808 ≤ m) (hu : u.size ≤ 140737488351232) (ho : o ≤ 9223372036854775807) (ho0 : -9223372036854775808 ≤ o) (w : World) :
    Calls Try.prog 13 #[.agg #[.int .i64 k, .string s, .bool r, .int .i64 n], .agg #[.int .i64 m, .string u, .bool q, .int .i64 o]] w fun e w' => e = .returned (.bool true) ∧ Below w.heap.size w w' := by
  have hB := fun v => C_bare k s r n hs v
  have hB2 := fun v => C_bare m u q o hu v
  have hR := fun v => C_rcheck k (bs k s) (br k r) (bn k n) (Nat.le_trans (bs_size k s) (by omega)) v
  have hR2 := fun v => C_rcheck m (bs m u) (br m q) (bn m o) (Nat.le_trans (bs_size m u) (by omega)) v
  have hO := fun v => C_own k (bs k s) (br k r) (bn k n) v
  have hO2 := fun v => C_own m (bs m u) (br m q) (bn m o) v
  unfold fcmd at hB hB2 hO hO2
  have fc := own_bare_fit k s r n hn hn0
  have fd := own_bare_fit m u q o ho ho0
  generalize own k (bs k s) (br k r) (bn k n) = c at hR hO fc
  generalize own m (bs m u) (br m q) (bn m o) = d at hR2 hO2 fd
  by_cases h1 : c.chk = 0
  · rw [h1] at hR
    by_cases h2 : d.chk = 0
    · rw [h2] at hR2
      obtain ⟨b, hE, hb⟩ := C_ieq c d
      refine unlike_good k m s _ u _ r _ q _ n _ o _ hB hB2 hR hR2 c d hO hO2 (S c.bytes) (S d.bytes) b ?_ (fun v => C_bytes c fc v) (fun v => C_bytes d fd v) hE (eqGuard_cmd c d h1) w
      rw [S_toList, S_toList]
      unfold Cmd.bytes
      rw [if_pos h1, if_pos h2]
      cases b with
      | true => rw [hb.1 rfl]; simp
      | false =>
        have : ¬ c = d := fun e => by have := hb.2 e; cases this
        rw [beq_eq_false_iff_ne]
        exact fun e => this (bytes_inj h1 h2 e)
    · exact unlike_bad2 k m s _ u _ r _ q _ n _ o _ hB hB2 hR _ (by omega) hR2 w
  · exact unlike_bad1 k m s _ u _ r _ q _ n _ o _ hB hB2 _ (by omega) hR w
end Go.Proofs.Ytajccobndgechaa.Cod
