-- Written by a program of this session (wip/print): no text of the kit's print.sh.
import Derived.Test.YtclmdidgioggdaaQx0
import Derived.Test.YtclmdidgioggdaaQx2
import Derived.Test.YtclmdidgioggdaaQx3
import Derived.Test.YtclmdidgioggdaaQx5
namespace Go.Proofs.Ytclmdidgioggdaa.Q
open Go.RowKit Go.Proofs.YtclmdidgioggdaaW.PrintWords Go.Proofs.YtclmdidgioggdaaW.PrintLast Go.Proofs.YtclmdidgioggdaaW.PrintMore
attribute [local go_sem] max2_int min2_int max_two min_two max_three min_three max_four min_four   -- for this text's walks alone
set_option linter.unusedVariables false
set_option linter.unusedSimpArgs false

/-! ### nat_Parse: function 38 -/
theorem ba_loop (a : ByteArray) (n : Nat) : ∀ i r, a.size - i = n → ByteArray.toList.loop a i r = r.reverse ++ a.data.toList.drop i := by
  induction n with
  | zero =>
    intro i r h
    rw [ByteArray.toList.loop, if_neg (by omega), List.drop_of_length_le (by simp; omega), List.append_nil]
  | succ n ih =>
    intro i r h
    have hi : i < a.size := by omega
    rw [ByteArray.toList.loop, if_pos hi, ih (i + 1) _ (by omega)]
    rw [List.drop_eq_getElem_cons (i := i) (by simpa using hi)]
    have e : a.get! i = a.data.toList[i]'(by simpa using hi) := by
      simp [ByteArray.get!, getElem!_pos, hi]
    rw [e]; simp
theorem ba_toList (a : ByteArray) : a.toList = a.data.toList := by
  rw [ByteArray.toList, ba_loop a a.size 0 [] (by omega)]; simp
def nat_Parse.l0 (k : Nat) : List UInt8 → List Int → Option (List Int × Bool)
  | [], out => some (out, true)
  | c :: cs, out => if c.toNat < 48 ∨ 57 < c.toNat then some ([], false) else
      (nat_Of.f k 10).bind fun t => (nat_Nat_Mul.f k out t).bind fun p => (nat_Of.f k ((c.toNat : Int) - 48)).bind fun q => (nat_Nat_Add.f k p q).bind fun o => nat_Parse.l0 k cs o
def nat_Parse.f (k : Nat) (a0 : ByteArray) : Option (List Int × Bool) :=
  if a0.size = 0 ∨ 400 < a0.size ∨ (bt a0 0 = 48 ∧ 1 < a0.size) then some ([], false) else nat_Parse.l0 k a0.data.toList []
theorem nat_Parse.mono_l (k : Nat) : ∀ cs out, LeO (nat_Parse.l0 k cs out) (nat_Parse.l0 (k + 1) cs out)
  | [], _ => LeO.refl _
  | c :: cs, out => by
    unfold nat_Parse.l0
    refine LeO.ite (LeO.refl _) ?_
    refine LeO.bind (nat_Of.mono _ _) fun _ => LeO.bind (nat_Nat_Mul.mono _ _ _) fun _ => LeO.bind (nat_Of.mono _ _) fun _ => LeO.bind (nat_Nat_Add.mono _ _ _) fun _ => nat_Parse.mono_l k cs _
theorem nat_Parse.mono : ∀ a0 k, LeO (nat_Parse.f k a0) (nat_Parse.f (k + 1) a0) := by
  intro a0 k
  unfold nat_Parse.f
  exact LeO.ite (LeO.refl _) (nat_Parse.mono_l k _ _)
theorem nat_Parse.drop (s : ByteArray) (pos : Nat) (h : pos < s.size) : s.data.toList.drop pos = s[pos] :: s.data.toList.drop (pos + 1) := by
  rw [List.drop_eq_getElem_cons (by simpa using h)]; rfl
theorem nat_Parse.wid (s : ByteArray) (pos : Nat) (h : pos < s.size) : 1 ≤ (Utf8.decode s pos).2 := by
  by_cases ha : (s[pos]'h).toNat < 128
  · rw [decode_ascii s pos h ha]
    exact Nat.le_refl _
  · exact (decode_high s pos h (by omega)).2
set_option maxHeartbeats 4000000 in
set_option maxRecDepth 100000 in
theorem nat_Parse.bad (a0 : ByteArray) (w : World) (h : a0.size = 0 ∨ 400 < a0.size ∨ (bt a0 0 = 48 ∧ 1 < a0.size)) :
    Calls Try.prog 38 #[.string a0] w fun e w' => e = .returned (.tuple #[.agg #[.slice none 0 0], .bool false]) ∧ Below w.heap.size w w' := by
  have hu := Try.underlying31
  have fin : ∀ c, Below w.heap.size w (w.alloc c) := fun c => (Below.refl _ _).alloc (Nat.le_refl _) _
  by_cases h0 : a0.toList = ([] : List UInt8)
  · have c1 : (a0.toList == ([] : List UInt8)) = true := beq_iff_eq.mpr h0
    go_enter Try.func38, Try.ntmps38
    go_wp2
    exact bodyPost_ret (v := .tuple #[.agg #[.slice none 0 0], .bool false]) (by simp [results, Try.results38, go_sem]) rfl ⟨rfl, fin _⟩
  · have c1 : (a0.toList == ([] : List UInt8)) = false := beq_eq_false_iff_ne.mpr h0
    have hs : 0 < a0.size := by
      rcases Nat.eq_zero_or_pos a0.size with e | e
      · exact absurd (by cases a0; simp [ByteArray.size] at e; subst e; kernel_rfl) h0
      · exact e
    clear h0
    by_cases h1 : 400 < a0.size
    · have c2 : decide (400 < a0.size) = true := decide_eq_true h1
      have c2' : decide (400 < (a0.size : Int)) = true := decide_eq_true (by omega)
      go_enter Try.func38, Try.ntmps38
      go_wp2
      exact bodyPost_ret (v := .tuple #[.agg #[.slice none 0 0], .bool false]) (by simp [results, Try.results38, go_sem]) rfl ⟨rfl, fin _⟩
    · have c2 : decide (400 < a0.size) = false := decide_eq_false h1
      have c2' : decide (400 < (a0.size : Int)) = false := decide_eq_false (by omega)
      have h2 : bt a0 0 = 48 ∧ 1 < a0.size := by rcases h with h | h | h <;> first | omega | exact h
      have hx : ∀ h : 0 < a0.size, ((a0[0]'h).toNat : Int) = bt a0 0 := bt_at a0 0
      have c3 : (bt a0 0 == 48) = true := beq_iff_eq.mpr h2.1
      have c4 : decide (1 < a0.size) = true := decide_eq_true h2.2
      have c4' : decide (1 < (a0.size : Int)) = true := decide_eq_true (by omega)
      have q : (0 < (a0.size : Int)) = True := eq_true (by omega)
      have q2 : (0 < a0.size) = True := eq_true (by omega)
      clear h h2
      go_enter Try.func38, Try.ntmps38
      go_wp2
      exact bodyPost_ret (v := .tuple #[.agg #[.slice none 0 0], .bool false]) (by simp [results, Try.results38, go_sem]) rfl ⟨rfl, fin _⟩
set_option maxHeartbeats 4000000 in
set_option maxRecDepth 100000 in
theorem nat_Parse.main (k : Nat) (a0 : ByteArray) (r1 : List Int) (r2 : Bool) (w : World) (hb0 : ¬ (a0.size = 0 ∨ 400 < a0.size ∨ (bt a0 0 = 48 ∧ 1 < a0.size))) (h : nat_Parse.l0 k a0.data.toList [] = some (r1, r2)) :
    Calls Try.prog 38 #[.string a0] w fun e w' => ∃ v0_ : Value, e = .returned (.tuple #[.agg #[v0_], .bool r2]) ∧ Kd.V (Kd.int .u32) 27 w' w.heap.size (fun k_ => (w.heap.size ≤ k_)) v0_ r1 ∧ Below w.heap.size w w' := by
  have hu := Try.underlying31
  have hs : 0 < a0.size := by rcases Nat.eq_zero_or_pos a0.size with e | e <;> omega
  have h0 : a0.toList ≠ ([] : List UInt8) := by
    intro e
    rw [ba_toList] at e
    have : a0.data.toList.length = a0.size := by simp
    rw [e] at this
    simp at this
    omega
  have c1 : (a0.toList == ([] : List UInt8)) = false := beq_eq_false_iff_ne.mpr h0
  have c2 : decide (400 < a0.size) = false := decide_eq_false (by omega)
  have c2' : decide (400 < (a0.size : Int)) = false := decide_eq_false (by omega)
  have hx : ∀ h : 0 < a0.size, ((a0[0]'h).toNat : Int) = bt a0 0 := bt_at a0 0
  have q : (0 < (a0.size : Int)) = True := eq_true (by omega)
  have q2 : (0 < a0.size) = True := eq_true (by omega)
  have Hs := Lib.hid hs
  have H := Lib.hid h
  have HB0 := Lib.hid hb0
  clear h h0 hs hb0
  have hd : ((bt a0 0 == 48) = true ∧ decide (1 < a0.size) = false ∧ decide (1 < (a0.size : Int)) = false) ∨ ((bt a0 0 == 48) = false ∧ True ∧ True) := by
    by_cases d : bt a0 0 = 48
    · exact .inl ⟨beq_iff_eq.mpr d, decide_eq_false (by have := HB0.out; omega), decide_eq_false (by have := HB0.out; omega)⟩
    · exact .inr ⟨beq_eq_false_iff_ne.mpr d, trivial, trivial⟩
  rcases hd with ⟨c3, c4, c4'⟩ | ⟨c3, _, _⟩
  all_goals
    go_enter Try.func38, Try.ntmps38
    go_wp2
    go_loopw [] (fun wr => ∃ (pos : Nat) (ys : List Int) (A : Option Addr) (c : Nat), Aside0 (wr.heap[w.heap.size + 1 + 1]? = some (.stringIter a0 pos)) ∧ Aside0 (wr.heap[w.heap.size]? = some (.cells #[.slice none 0 0] 31 (0, 0))) ∧ Aside0 (wr.heap[w.heap.size + 1]? = some (.cells #[.slice A ys.length c] 31 (0, 0))) ∧ Aside0 (Kd.V (Kd.int .u32) 27 wr w.heap.size (fun k_ => w.heap.size ≤ k_ ∧ k_ ≠ w.heap.size ∧ k_ ≠ w.heap.size + 1 ∧ k_ ≠ w.heap.size + 1 + 1) (.slice A ys.length c) ys) ∧ Aside0 (Below w.heap.size w wr) ∧ Aside0 (nat_Parse.l0 k (a0.data.toList.drop pos) ys = some (r1, r2))) (fun wr => a0.size - wr.iterPos (w.heap.size + 1 + 1))
    case atStart =>
      refine ⟨0, [], none, 0, ⟨?_⟩, ⟨?_⟩, ⟨?_⟩, ⟨Kd.V_nil _ _ _ _ _⟩, ⟨?_⟩, ⟨H.out⟩⟩
      · have := World.iter_heap ((w.alloc (.cells #[.slice none 0 0] 31)).alloc (.cells #[.slice none 0 0] 31)) a0 0
        simpa using this
      · exact blk_alloc (blk_alloc (blk_new w _) _) _
      · have := blk_alloc (blk_new (w.alloc (.cells #[.slice none 0 0] 31)) (.cells #[.slice none 0 0] 31)) (.stringIter a0 0)
        rw [World.size_alloc] at this
        exact this
      · exact ((((Below.refl _ w).alloc (Nat.le_refl _) _).alloc (by simp) _).alloc (by simp; omega) _)
    case round =>
      obtain ⟨pos, ys, A, c, hit, hb0, hb1, hv, hbw, hl⟩ := hrel
      by_cases hp : pos < a0.size
      · have hnx : ∀ ty, (Instr.next (.pointer (some ⟨w.heap.size + 1 + 1, 0, none⟩)) true ty).run Try.prog wr = _ := fun ty => Lib.run_next_any_at wr (w.heap.size + 1 + 1) a0 pos ty hit.out hp
        have hwd := nat_Parse.wid a0 pos hp
        have hl' := hl.out
        rw [nat_Parse.drop a0 pos hp] at hl'
        unfold nat_Parse.l0 at hl'
        have hlt := blk_lt hit.out
        have hbw2 := Lib.below_iterAt hbw.out (k := w.heap.size + 1 + 1) (by omega) a0 (pos + (Utf8.decode a0 pos).2)
        have hb02 := (Lib.iterAt_other wr (w.heap.size + 1 + 1) w.heap.size a0 (pos + (Utf8.decode a0 pos).2) (by omega)).trans hb0.out
        have hb12 := (Lib.iterAt_other wr (w.heap.size + 1 + 1) (w.heap.size + 1) a0 (pos + (Utf8.decode a0 pos).2) (by omega)).trans hb1.out
        have hit2 := Lib.iterAt_heap wr (w.heap.size + 1 + 1) a0 pos (pos + (Utf8.decode a0 pos).2) hit.out
        have hv2 := Kd.V_step hv.out (w1 := wr.iterAt (w.heap.size + 1 + 1) a0 (pos + (Utf8.decode a0 pos).2)) (fun k_ hk _ => Lib.iterAt_other wr (w.heap.size + 1 + 1) k_ a0 _ hk.2.2.2)
        have hsz := Lib.iterAt_size wr (w.heap.size + 1 + 1) a0 (pos + (Utf8.decode a0 pos).2)
        generalize hW : wr.iterAt (w.heap.size + 1 + 1) a0 (pos + (Utf8.decode a0 pos).2) = W at *
        by_cases hc : (a0[pos]).toNat < 48 ∨ 57 < (a0[pos]).toNat
        · rw [if_pos hc] at hl'
          injection hl' with hl'
          injection hl' with e1 e2
          subst e1 e2
          have hd : (decide (((Utf8.decode a0 pos).1 : Int) < 48) = true) ∨ (decide (((Utf8.decode a0 pos).1 : Int) < 48) = false ∧ decide ((57 : Int) < ((Utf8.decode a0 pos).1 : Int)) = true) := by
            by_cases ha : (a0[pos]).toNat < 128
            · rw [decode_ascii a0 pos hp ha]
              rcases hc with hc | hc
              · exact .inl (decide_eq_true (by simp; omega))
              · exact .inr ⟨decide_eq_false (by simp; omega), decide_eq_true (by simp; omega)⟩
            · have := (decode_high a0 pos hp (by omega)).1
              exact .inr ⟨decide_eq_false (by omega), decide_eq_true (by omega)⟩
          have hf0 := blk_frozen hb02 0
          have hcz : W.cell? ⟨w.heap.size, 0, none⟩ = some (.slice none 0 0) := (blk_cell hb02 0).trans rfl
          have HW := Aside0.mk hW
          have HB2 := Aside0.mk hbw2
          have HB02 := Aside0.mk hb02
          clear hc hit2 hv2 hb12 hb02 hsz hW hbw2 hl
          rcases hd with hd | ⟨hd, hd2⟩
          all_goals
            go_wp2
            refine bodyPost_ret (results_ct rfl _ _ w.heap.size 31 #[.slice none 0 0] (0, 0) _ rfl (blk_put (cs := #[.slice none 0 0]) HB02.out 0 _ rfl) hu rfl (by kernel_rfl)) rfl ?_
            exact ⟨.slice none 0 0, rfl, Kd.V_nil _ _ _ _ _, below_set HB2.out (Nat.le_refl _)⟩
        · rw [if_neg hc] at hl'
          have hlt2 : (a0[pos]).toNat < 128 := by omega
          have hnx2 : ∀ ty, (Instr.next (.pointer (some ⟨w.heap.size + 1 + 1, 0, none⟩)) true ty).run Try.prog wr = .ok (.tuple #[.bool true, .int .i64 pos, .int .i32 (a0[pos]).toNat]) W := by
            intro ty
            have := hnx ty
            rw [decode_ascii a0 pos hp hlt2] at this
            exact this
          rw [decode_ascii a0 pos hp hlt2] at hit2 hwd
          clear hnx hb0 hb1 hv hbw hl
          replace hl' := Option.bind_eq_some_iff.mp hl'
          obtain ⟨t, A1, hl'⟩ := hl'
          replace hl' := Option.bind_eq_some_iff.mp hl'
          obtain ⟨p, A2, hl'⟩ := hl'
          replace hl' := Option.bind_eq_some_iff.mp hl'
          obtain ⟨q', A3, hl'⟩ := hl'
          replace hl' := Option.bind_eq_some_iff.mp hl'
          obtain ⟨o, A4, hl'⟩ := hl'
          generalize hcn : (a0[pos]).toNat = cn at *
          have hd1 : decide ((cn : Int) < 48) = false := decide_eq_false (by omega)
          have hd2 : decide ((57 : Int) < (cn : Int)) = false := decide_eq_false (by omega)
          have hn0 : (48 : Int) ≤ cn := by omega
          have hn1 : (cn : Int) ≤ 57 := by omega
          have e48 : IntKind.u64.wrap (IntKind.i32.wrap ((cn : Int) - 48)) = (cn : Int) - 48 := by
            rw [IntKind.wrap_i32]
            show ((((cn : Int) - 48 + 2147483648) % 4294967296 - 2147483648) % 18446744073709551616 : Int) = _
            omega
          rw [← e48] at A3
          clear e48
          have Hit := Aside0.mk hit.out
          have Hit2 := Aside0.mk hit2
          have HB02 := Aside0.mk hb02
          have HB12 := Aside0.mk hb12
          have HV2 := Aside0.mk hv2
          have HBW2 := Aside0.mk hbw2
          have HL := Aside0.mk hl'
          have HA1 := Aside0.mk A1
          have HA2 := Aside0.mk A2
          have HA3 := Aside0.mk A3
          have HA4 := Aside0.mk A4
          have hc1 : W.cell? ⟨w.heap.size + 1, 0, none⟩ = some (.slice A ys.length c) := (blk_cell HB12.out 0).trans rfl
          clear hit hit2 hb02 hb12 hv2 hbw2 hl' A1 A2 A3 A4 hc hcn hW hlt hlt2 hsz
          go_wp2
          go_region_with (first | (go_at_call 30; (with_reducible refine (nat_Of.calls k 10 t _ HA1.out).mono ?_); rintro e w1 ⟨v1, rfl, hV1, hB1⟩; obtain ⟨At, ct, rfl⟩ := Kd.V_slice hV1; have hr := Aside0.mk hV1; have y1 := Aside0.mk (Kd.V_below (by (with_reducible repeat (first | apply Kd.V_alloc | apply Kd.V_drewN | apply Kd.V_drew)); exact HV2.out) hB1); have b0_1 := Aside0.mk (blk_below (g := w.heap.size) (o := .cells #[.slice none 0 0] 31 (0, 0)) (by (with_reducible repeat (first | refine blk_drewN ?_ _ | refine blk_drew ?_ | refine blk_alloc ?_ _)); exact HB02.out) hB1); have b1_1 := Aside0.mk (blk_below (g := w.heap.size + 1) (o := .cells #[.slice A ys.length c] 31 (0, 0)) (by (with_reducible repeat (first | refine blk_drewN ?_ _ | refine blk_drew ?_ | refine blk_alloc ?_ _)); exact HB12.out) hB1); have b2_1 := Aside0.mk (blk_below (g := w.heap.size + 1 + 1) (o := .stringIter a0 (pos + 1)) (by (with_reducible repeat (first | refine blk_drewN ?_ _ | refine blk_drew ?_ | refine blk_alloc ?_ _)); exact Hit2.out) hB1); have bb_1 := Aside0.mk (below_step (by repeat (first | (with_reducible first | exact HBW2.out | apply below_alloc | apply pw_below_drewN | apply below_drew1) | exact HBW2.out)) hB1); have hc2 : w1.cell? ⟨w.heap.size + 1, 0, none⟩ = some (.slice A ys.length c) := (blk_cell b1_1.out 0).trans rfl; clear hV1 hB1) | (go_at_call 30; (with_reducible refine (nat_Of.calls k (IntKind.u64.wrap (IntKind.i32.wrap ((cn : Int) - 48))) q' _ HA3.out).mono ?_); rintro e w3 ⟨v3, rfl, hV3, hB3⟩; obtain ⟨Aq, cq, rfl⟩ := Kd.V_slice hV3; have hq := Aside0.mk hV3; have hp3 := Aside0.mk (Kd.V_below (by (with_reducible repeat (first | apply Kd.V_alloc | apply Kd.V_drewN | apply Kd.V_drew)); exact hp2.out) hB3); have y3 := Aside0.mk (Kd.V_below (by (with_reducible repeat (first | apply Kd.V_alloc | apply Kd.V_drewN | apply Kd.V_drew)); exact y2.out) hB3); have b0_3 := Aside0.mk (blk_below (g := w.heap.size) (o := .cells #[.slice none 0 0] 31 (0, 0)) (by (with_reducible repeat (first | refine blk_drewN ?_ _ | refine blk_drew ?_ | refine blk_alloc ?_ _)); exact b0_2.out) hB3); have b1_3 := Aside0.mk (blk_below (g := w.heap.size + 1) (o := .cells #[.slice A ys.length c] 31 (0, 0)) (by (with_reducible repeat (first | refine blk_drewN ?_ _ | refine blk_drew ?_ | refine blk_alloc ?_ _)); exact b1_2.out) hB3); have b2_3 := Aside0.mk (blk_below (g := w.heap.size + 1 + 1) (o := .stringIter a0 (pos + 1)) (by (with_reducible repeat (first | refine blk_drewN ?_ _ | refine blk_drew ?_ | refine blk_alloc ?_ _)); exact b2_2.out) hB3); have bb_3 := Aside0.mk (below_step (by repeat (first | (with_reducible first | exact bb_2.out | apply below_alloc | apply pw_below_drewN | apply below_drew1) | exact bb_2.out)) hB3); clear hV3 hB3) | (go_at_call 21; (with_reducible refine (nat_Nat_Mul.calls k _ _ ys _ _ t p _ ?s1 ?s2 ?s3 ?s4 HA2.out).mono ?_); (case s1 => exact (by (with_reducible repeat (first | refine Kd.C_alloc ?_ _ | refine Kd.C_drewN ?_ _ | refine Kd.C_drew ?_)); exact (Kd.V_reads' y1.out).2.2)); (case s2 => exact (Kd.V_reads' y1.out).2.1); (case s3 => exact (by (with_reducible repeat (first | refine Kd.C_alloc ?_ _ | refine Kd.C_drewN ?_ _ | refine Kd.C_drew ?_)); exact (Kd.V_reads' hr.out).2.2)); (case s4 => exact (Kd.V_reads' hr.out).2.1); rintro e w2 ⟨v2, rfl, hV2, hB2⟩; obtain ⟨Ap, cp, rfl⟩ := Kd.V_slice hV2; have hp2 := Aside0.mk hV2; have y2 := Aside0.mk (Kd.V_below (by (with_reducible repeat (first | apply Kd.V_alloc | apply Kd.V_drewN | apply Kd.V_drew)); exact y1.out) hB2); have b0_2 := Aside0.mk (blk_below (g := w.heap.size) (o := .cells #[.slice none 0 0] 31 (0, 0)) (by (with_reducible repeat (first | refine blk_drewN ?_ _ | refine blk_drew ?_ | refine blk_alloc ?_ _)); exact b0_1.out) hB2); have b1_2 := Aside0.mk (blk_below (g := w.heap.size + 1) (o := .cells #[.slice A ys.length c] 31 (0, 0)) (by (with_reducible repeat (first | refine blk_drewN ?_ _ | refine blk_drew ?_ | refine blk_alloc ?_ _)); exact b1_1.out) hB2); have b2_2 := Aside0.mk (blk_below (g := w.heap.size + 1 + 1) (o := .stringIter a0 (pos + 1)) (by (with_reducible repeat (first | refine blk_drewN ?_ _ | refine blk_drew ?_ | refine blk_alloc ?_ _)); exact b2_1.out) hB2); have bb_2 := Aside0.mk (below_step (by repeat (first | (with_reducible first | exact bb_1.out | apply below_alloc | apply pw_below_drewN | apply below_drew1) | exact bb_1.out)) hB2); clear hV2 hB2) | (go_at_call 23; (with_reducible refine (nat_Nat_Add.calls k _ _ p _ _ q' o _ ?s1 ?s2 ?s3 ?s4 HA4.out).mono ?_); (case s1 => exact (by (with_reducible repeat (first | refine Kd.C_alloc ?_ _ | refine Kd.C_drewN ?_ _ | refine Kd.C_drew ?_)); exact (Kd.V_reads' hp3.out).2.2)); (case s2 => exact (Kd.V_reads' hp3.out).2.1); (case s3 => exact (by (with_reducible repeat (first | refine Kd.C_alloc ?_ _ | refine Kd.C_drewN ?_ _ | refine Kd.C_drew ?_)); exact (Kd.V_reads' hq.out).2.2)); (case s4 => exact (Kd.V_reads' hq.out).2.1); rintro e w4 ⟨v4, rfl, hV4, hB4⟩; obtain ⟨Ao, co, rfl⟩ := Kd.V_slice hV4; have ho := Aside0.mk hV4; have y4 := Aside0.mk (Kd.V_below (by (with_reducible repeat (first | apply Kd.V_alloc | apply Kd.V_drewN | apply Kd.V_drew)); exact y3.out) hB4); have b0_4 := Aside0.mk (blk_below (g := w.heap.size) (o := .cells #[.slice none 0 0] 31 (0, 0)) (by (with_reducible repeat (first | refine blk_drewN ?_ _ | refine blk_drew ?_ | refine blk_alloc ?_ _)); exact b0_3.out) hB4); have b1_4 := Aside0.mk (blk_below (g := w.heap.size + 1) (o := .cells #[.slice A ys.length c] 31 (0, 0)) (by (with_reducible repeat (first | refine blk_drewN ?_ _ | refine blk_drew ?_ | refine blk_alloc ?_ _)); exact b1_3.out) hB4); have b2_4 := Aside0.mk (blk_below (g := w.heap.size + 1 + 1) (o := .stringIter a0 (pos + 1)) (by (with_reducible repeat (first | refine blk_drewN ?_ _ | refine blk_drew ?_ | refine blk_alloc ?_ _)); exact b2_3.out) hB4); have bb_4 := Aside0.mk (below_step (by repeat (first | (with_reducible first | exact bb_3.out | apply below_alloc | apply pw_below_drewN | apply below_drew1) | exact bb_3.out)) hB4); have hf1 := blk_frozen b1_4.out 0; have hc4 : w4.cell? ⟨w.heap.size + 1, 0, none⟩ = some (.slice A ys.length c) := (blk_cell b1_4.out 0).trans rfl; clear hV4 hB4))
          all_goals
            have hW3 := blk_lt b2_3.out
            have hit5 := (Below.heap_setCell w4 ⟨w.heap.size + 1, 0, none⟩ (.slice Ao o.length co) (w.heap.size + 1 + 1) (by simp)).trans b2_4.out
            have q0 := blk_far b0_4.out (p := ⟨w.heap.size + 1, 0, none⟩) (by simp) (.slice Ao o.length co)
            have q1 := blk_put (cs := #[.slice A ys.length c]) (cs' := #[.slice Ao o.length co]) b1_4.out 0 (.slice Ao o.length co) rfl
            have qv := Kd.V_far (p := ⟨w.heap.size + 1, 0, none⟩) (Kd.V_mono ho.out (ok' := fun k_ => w.heap.size ≤ k_ ∧ k_ ≠ w.heap.size ∧ k_ ≠ w.heap.size + 1 ∧ k_ ≠ w.heap.size + 1 + 1) (fun k_ hk => ⟨by omega, by omega, by omega, by omega⟩)) (fun _ hk => hk.2.2.1) (.slice Ao o.length co)
            have qb := below_set (j := 0) (v := .slice Ao o.length co) bb_4.out (g := w.heap.size + 1) (by omega)
            go_roundw
            case rel =>
              (repeat apply Exists.intro)
              exact ⟨⟨pos + 1, o, Ao, co, ⟨hit5⟩, ⟨q0⟩, ⟨q1⟩, ⟨qv⟩, ⟨qb⟩, ⟨HL.out⟩⟩, rfl⟩
            case measure =>
              rw [iterPos_of hit5, iterPos_of Hit.out]
              omega
      · have hnx : ∀ ty, (Instr.next (.pointer (some ⟨w.heap.size + 1 + 1, 0, none⟩)) true ty).run Try.prog wr = _ := fun ty => Lib.run_next_end_at wr (w.heap.size + 1 + 1) a0 pos ty hit.out hp
        have hc0 : wr.cell? ⟨w.heap.size + 1, 0, none⟩ = some (.slice A ys.length c) := (blk_cell hb1.out 0).trans rfl
        have hf0 := blk_frozen hb0.out 0
        have hcz : wr.cell? ⟨w.heap.size, 0, none⟩ = some (.slice none 0 0) := (blk_cell hb0.out 0).trans rfl
        have hl' := hl.out
        rw [List.drop_of_length_le (by simp; omega)] at hl'
        unfold nat_Parse.l0 at hl'
        injection hl' with hl'
        injection hl' with e1 e2
        subst e1 e2
        clear hl
        go_wp2
        refine bodyPost_ret (results_ct rfl _ _ w.heap.size 31 #[.slice A ys.length c] (0, 0) _ rfl (blk_put (cs := #[.slice none 0 0]) hb0.out 0 _ rfl) hu rfl (by kernel_rfl)) rfl ?_
        exact ⟨.slice A ys.length c, rfl, Kd.V_mono (Kd.V_far (p := ⟨w.heap.size, 0, none⟩) hv.out (fun _ hk => hk.2.1) _) (fun _ hk => hk.1), below_set hbw.out (Nat.le_refl _)⟩
theorem nat_Parse.calls (k : Nat) (a0 : ByteArray) (r1 : List Int) (r2 : Bool) (w : World) (h : nat_Parse.f k a0 = some (r1, r2)) :
    Calls Try.prog 38 #[.string a0] w fun e w' => ∃ v0_ : Value, e = .returned (.tuple #[.agg #[v0_], .bool r2]) ∧ Kd.V (Kd.int .u32) 27 w' w.heap.size (fun k_ => (w.heap.size ≤ k_)) v0_ r1 ∧ Below w.heap.size w w' := by
  unfold nat_Parse.f at h
  split at h
  case isTrue hx =>
    injection h with h
    injection h with e1 e2
    subst e1 e2
    exact (nat_Parse.bad a0 w hx).mono fun e w' ⟨he, hb⟩ => ⟨_, he, Kd.V_nil _ _ _ _ _, hb⟩
  case isFalse hx => exact nat_Parse.main k a0 r1 r2 w hx h

end Go.Proofs.Ytclmdidgioggdaa.Q
