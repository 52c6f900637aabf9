/- CommandReads: the walk, by what each call means. No condition. -/
import Derived.Test.YtajccobndgechaaRP
namespace Go.Proofs.Ytajccobndgechaa.Cod
open Go.RowKit
set_option maxHeartbeats 1600000 in
set_option maxRecDepth 100000 in
theorem reads_bad (s d : ByteArray) (e : Nat) (he : ¬ (e : Int) = 0) (k : Int) (t : ByteArray) (r : Bool) (n : Int)
    (hCut : ∀ v, Calls Try.prog 19 #[.string s, .int .i64 300] v fun e w' => e = .returned (.string d) ∧ v = w')
    (hP : ∀ v, Calls Try.prog 53 #[.string d] v fun f w' => f = .returned (.tuple #[.nilIface, .int .i64 e]) ∧ Below v.heap.size v w')
    (hR : ∀ v, Calls Try.prog 54 #[.string d] v fun f w' => f = .returned (.tuple #[.agg #[.int .i64 k, .string t, .bool r, .int .i64 n], .int .i64 e]) ∧ Below v.heap.size v w') (w : World) :
    Calls Try.prog 11 #[.string s] w fun e w' => e = .returned (.bool true) ∧ Below w.heap.size w w' := by
  have hE := ieq_nil
  have hne : ((e : Int) != 0) = true := by rw [bne_iff_ne]; exact he
  have hG : ∀ (x : Operand) (v : Value) (w : World), (eqGuard .eql 88 x (.const v) .nilIface .nilIface).run Try.prog w = .ok () w := fun x v w => by simp [eqGuard]
  go_enter Try.func11, Try.ntmps11
  go_wp2_with (first
    | (go_at_call 52; with_reducible refine (C_awake20 _).mono ?_; rintro e w1 ⟨rfl, f1⟩)
    | (go_at_call 19; with_reducible refine (hCut _).mono ?_; rintro e w2 ⟨rfl, rfl⟩)
    | (go_at_call 53; with_reducible refine (hP _).mono ?_; rintro e w3 ⟨rfl, f3⟩)
    | (go_at_call 54; with_reducible refine (hR _).mono ?_; rintro e w4 ⟨rfl, f4⟩))
  go_ret
  have F := f1.trans ((f3.mono f1.size).trans (f4.mono (Nat.le_trans f1.size f3.size)))
  exact ⟨rfl, F.alloc F.size _⟩
set_option maxHeartbeats 1600000 in
set_option maxRecDepth 100000 in
theorem reads_good (s d : ByteArray) (c : Cmd) (k : Int) (t : ByteArray) (r : Bool) (n : Int)
    (hCut : ∀ v, Calls Try.prog 19 #[.string s, .int .i64 300] v fun e w' => e = .returned (.string d) ∧ v = w')
    (hP : ∀ v, Calls Try.prog 53 #[.string d] v fun f w' => f = .returned (.tuple #[c.val, .int .i64 0]) ∧ Below v.heap.size v w')
    (hR : ∀ v, Calls Try.prog 54 #[.string d] v fun f w' => f = .returned (.tuple #[.agg #[.int .i64 k, .string t, .bool r, .int .i64 n], .int .i64 0]) ∧ Below v.heap.size v w')
    (hO : ∀ v, Calls Try.prog 55 #[.agg #[.int .i64 k, .string t, .bool r, .int .i64 n]] v fun e w' => e = .returned c.val ∧ Below v.heap.size v w')
    (hY : ∀ v, Calls Try.prog 56 #[c.val] v fun e w' => e = .returned (.string d) ∧ Below v.heap.size v w')
    (hK : ∀ v, Calls Try.prog 57 #[c.val] v fun e w' => e = .returned (.int .i64 0) ∧ Below v.heap.size v w')
    (hN : ∀ w : World, (binOp .eql 88 c.val .nilIface).run Try.prog w = .ok (.bool false) w)
    (hE : ∀ w : World, (binOp .eql 88 c.val c.val).run Try.prog w = .ok (.bool true) w)
    (hG : ∀ (x y : Operand) (v : Value) (w : World), (eqGuard .eql 88 x y c.val v).run Try.prog w = .ok () w) (w : World) :
    Calls Try.prog 11 #[.string s] w fun e w' => e = .returned (.bool true) ∧ Below w.heap.size w w' := by
  generalize c.val = cv at *
  go_enter Try.func11, Try.ntmps11
  go_wp2_with (first
    | (go_at_call 52; with_reducible refine (C_awake20 _).mono ?_; rintro e w1 ⟨rfl, f1⟩)
    | (go_at_call 19; with_reducible refine (hCut _).mono ?_; rintro e w2 ⟨rfl, rfl⟩)
    | (go_at_call 53; with_reducible refine (hP _).mono ?_; rintro e w3 ⟨rfl, f3⟩)
    | (go_at_call 54; with_reducible refine (hR _).mono ?_; rintro e w4 ⟨rfl, f4⟩)
    | (go_at_call 55; with_reducible refine (hO _).mono ?_; rintro e w5 ⟨rfl, f5⟩)
    | (go_at_call 56; with_reducible refine (hY _).mono ?_; rintro e w6 ⟨rfl, f6⟩)
    | (go_at_call 57; with_reducible refine (hK _).mono ?_; rintro e w7 ⟨rfl, f7⟩))
  go_ret
  have F := f1.trans ((f3.mono f1.size).trans (f4.mono (Nat.le_trans f1.size f3.size)))
  have G := F.alloc F.size (.cells #[.int .i64 k, .string t, .bool r, .int .i64 n] 92)
  have H := G.trans (f5.mono G.size)
  have I := H.trans (f6.mono H.size)
  exact ⟨rfl, I.trans (f7.mono I.size)⟩
theorem W_CommandReads (s : ByteArray) (hs : s.size ≤ 140737488351232) (w : World) :
    Calls Try.prog 11 #[.string s] w fun e w' => e = .returned (.bool true) ∧ Below w.heap.size w w' := by
  have hCut := fun v => C_cut s 300 (by omega) (by omega) hs v
  have e3 : (300 : Int).toNat = 300 := rfl
  rw [e3] at hCut
  obtain ⟨l, hl⟩ : ∃ l, (bl s).take 300 = l := ⟨_, rfl⟩
  rw [hl] at hCut
  have ll : l.length ≤ 300 := by rw [← hl, List.length_take]; exact Nat.min_le_left _ _
  clear hl
  have hz : (S l).size ≤ 140737488351232 := by rw [S_size]; omega
  have hP := fun v => C_parse (S l) hz v
  rw [bl_S] at hP
  obtain ⟨k, t, r, n, ho, hR⟩ := RP_all l (by omega)
  have hnot := @cparse_not l
  have hgood := cparse_good l
  unfold Good at hgood
  generalize cparse l = p at hP hR ho hnot hgood
  obtain ⟨c, e⟩ := p
  simp only at hP hR ho hnot hgood
  by_cases he : e = 0
  · subst he
    obtain ⟨hc, hb⟩ := hgood rfl
    have hO := fun v => C_own k t r n v
    unfold fcmd at hO
    rw [ho] at hO
    have hfit : c.fit := by
      cases c with
      | block s r => exact Nat.le_trans (small_zero.1 hc) (by omega)
      | cert s r => exact Nat.le_trans (small_zero.1 hc) (by omega)
      | mark s => exact Nat.le_trans (mark_size hc) (by omega)
      | clock n => have := clock_range hc; exact ⟨by omega, by omega⟩
      | _ => trivial
    have hK := fun v => C_chk c hfit v
    rw [hc] at hK
    have hY := fun v => C_bytes c hfit v
    unfold Cmd.bytes at hY
    rw [if_pos hc, hb] at hY
    obtain ⟨b, hE, hq⟩ := C_ieq c c
    rw [hq.2 rfl] at hE
    refine reads_good s (S l) c k t r n hCut hP hR hO hY hK (fun w => ?_) hE (fun x y v w => ?_) w
    · cases c with
      | none => exact absurd hc (by simp [Cmd.chk])
      | _ => exact ieq_nil_r _ _ w
    · cases c with
      | none => exact absurd hc (by simp [Cmd.chk])
      | _ => rfl
  · rw [hnot he] at hP
    exact reads_bad s (S l) e (by omega) k t r n hCut hP hR w
end Go.Proofs.Ytajccobndgechaa.Cod
