/- codec.In: what is left to be taken and the first error; contracts by what each call means. -/
import Derived.Test.YtdpkodhfelnedaaDoorIn
namespace Go.Proofs.YtdpkodhfelnedaaDoor.Cod
open Go.RowKit
abbrev St := List UInt8 × Nat
def fail (f : Nat) (st : St) : St := if st.2 = 0 ∧ f ≠ 0 then ([], f) else st
def inNum (most : Int) (st : St) : Nat × St :=
  if st.2 ≠ 0 then (0, st) else if (hd st.1).2.2 ≠ 0 then (0, ([], (hd st.1).2.2)) else if most < ((hd st.1).1 : Int) then (0, ([], 4)) else ((hd st.1).1, (st.1.drop (hd st.1).2.1, 0))
def inRaw (n : Nat) (st : St) : List UInt8 × St :=
  if st.2 ≠ 0 then ([], st) else if st.1.length < n then ([], ([], 2)) else (st.1.take n, (st.1.drop n, 0))
def inText (most : Int) (st : St) : List UInt8 × St := inRaw (inNum (max most 0) st).1 (inNum (max most 0) st).2
def inEnd (st : St) : Nat := if st.1 = [] then st.2 else 3
/-- the reader in block b -/
def IsIn (b : Nat) (st : St) (w : World) : Prop := ∃ s : ByteArray, w.heap[b]? = some (.cells #[.string s, .int .i64 st.2] 75 (0, 0)) ∧ bl s = st.1 ∧ s.size ≤ 140737488351232
/-- what a call leaves of all else -/
def Fi (b : Nat) (w w' : World) : Prop := w.grownBy w' (some b)
theorem Fi.refl (b : Nat) (w : World) : Fi b w w := World.grownBy.refl w _
theorem IsIn.lt {b : Nat} {st : St} {w : World} (h : IsIn b st w) : b < w.heap.size := by
  obtain ⟨s, h, _⟩ := h
  exact (Array.getElem?_eq_some_iff.1 h).1
theorem IsIn.below {b : Nat} {st : St} {w w' : World} (h : IsIn b st w) (hb : Below w.heap.size w w') : IsIn b st w' := by
  have hl := h.lt
  obtain ⟨s, h1, h2⟩ := h
  exact ⟨s, (hb.block b hl).trans h1, h2⟩
theorem IsIn.cell1 {b : Nat} {st : St} {w : World} (h : IsIn b st w) : w.cell? ⟨b, 1, none⟩ = some (.int .i64 st.2) := by
  obtain ⟨s, h, _⟩ := h
  rw [Lib.cell_of_heap h]; rfl
theorem Fi.trans {b : Nat} {x y z : World} (h : Fi b x y) (k : Fi b y z) : Fi b x z :=
  ⟨k.os.trans h.os, k.tape.trans h.tape, k.output.trans h.output, Nat.le_trans h.size k.size, fun i hi hb => (k.block i (Nat.lt_of_lt_of_le hi h.size) hb).trans (h.block i hi hb)⟩
theorem Fi.set (b : Nat) {w w' : World} (h : Fi b w w') (i : Nat) (v : Value) : Fi b w (w'.setCell ⟨b, i, none⟩ v) :=
  Fi.trans h ⟨rfl, rfl, rfl, by simp [World.setCell], fun k _ hb => Below.heap_setCell _ _ _ _ (fun e => hb (by rw [e]))⟩
theorem set_heap {w : World} {b i : Nat} {cs : Array Value} {t : TypeId} (h : w.heap[b]? = some (.cells cs t (0, 0))) (v : Value) : (w.setCell ⟨b, i, none⟩ v).heap[b]? = some (.cells (cs.setIfInBounds i v) t (0, 0)) := by
  simp [World.setCell, Array.getElem?_modify, h]
set_option maxHeartbeats 800000 in
set_option maxRecDepth 100000 in
theorem C_of (s : ByteArray) (w : World) (hs : s.size ≤ 140737488351232) :
    Calls Tryd.prog 23 #[.string s] w fun e w' => e = .returned (.pointer (some ⟨w.heap.size, 0, none⟩)) ∧ IsIn w.heap.size (bl s, 0) w' ∧ Below w.heap.size w w' := by
  go_enter Tryd.func23, Tryd.ntmps23
  go_wp2
  go_ret
  exact ⟨rfl, ⟨s, heap_alloc_new w _, rfl, hs⟩, (Below.refl _ _).alloc (Nat.le_refl _) _⟩
set_option maxHeartbeats 800000 in
set_option maxRecDepth 100000 in
theorem C_fail {b : Nat} {st : St} {w : World} (f : Nat) (h : IsIn b st w) :
    Calls Tryd.prog 37 #[.pointer (some ⟨b, 0, none⟩), .int .i64 f] w fun e w' => e = .returned (.tuple #[]) ∧ IsIn b (fail f st) w' ∧ Fi b w w' := by
  obtain ⟨l, e⟩ := st
  obtain ⟨s, hb, rfl, hs⟩ := h
  have c0 : w.cell? ⟨b, 0, none⟩ = some (.string s) := by rw [Lib.cell_of_heap hb]; rfl
  have c1 : w.cell? ⟨b, 1, none⟩ = some (.int .i64 e) := by rw [Lib.cell_of_heap hb]; rfl
  have f0 : w.frozen? ⟨b, 0, none⟩ = false := Lib.frozen_of_heap hb 0
  have f1 : w.frozen? ⟨b, 1, none⟩ = false := Lib.frozen_of_heap hb 1
  unfold fail
  by_cases he : e = 0
  · subst he
    by_cases hf : f = 0
    · subst hf
      rw [if_neg (by simp)]
      go_enter Tryd.func37, Tryd.ntmps37
      go_wp2
      go_end0
      exact ⟨rfl, ⟨s, hb, rfl, hs⟩, Fi.refl _ _⟩
    · rw [if_pos ⟨rfl, hf⟩]
      have hf' : ¬ (f : Int) = 0 := by omega
      have hf2 : ((f : Int) != 0) = true := by simpa using hf
      clear hf
      go_enter Tryd.func37, Tryd.ntmps37
      go_wp2
      go_end0
      exact ⟨rfl, ⟨ByteArray.empty, set_heap (set_heap hb _) _, rfl, by simp⟩, (Fi.refl _ _).set _ _ _ |>.set _ _ _⟩
  · rw [if_neg (by simp [he])]
    have he' : ¬ (e : Int) = 0 := by omega
    have he2 : ((e : Int) == 0) = false := by simpa using he
    clear he
    go_enter Tryd.func37, Tryd.ntmps37
    go_wp2
    go_end0
    exact ⟨rfl, ⟨s, hb, rfl, hs⟩, Fi.refl _ _⟩
set_option maxHeartbeats 800000 in
set_option maxRecDepth 100000 in
theorem C_end {b : Nat} {st : St} {w : World} (h : IsIn b st w) :
    Calls Tryd.prog 27 #[.pointer (some ⟨b, 0, none⟩)] w fun e w' => e = .returned (.int .i64 (inEnd st)) ∧ w = w' := by
  obtain ⟨l, e⟩ := st
  obtain ⟨s, hb, rfl, hs⟩ := h
  have c0 : w.cell? ⟨b, 0, none⟩ = some (.string s) := by rw [Lib.cell_of_heap hb]; rfl
  have c1 : w.cell? ⟨b, 1, none⟩ = some (.int .i64 e) := by rw [Lib.cell_of_heap hb]; rfl
  have hl := bl_len s
  unfold inEnd
  by_cases h0 : 0 < s.size
  · have h0' : (0 : Int) < (s.size : Int) := by omega
    rw [if_neg (by intro k; simp only at k; rw [k] at hl; simp at hl; omega)]
    go_enter Tryd.func27, Tryd.ntmps27
    go_wp2
    go_ret
    exact ⟨rfl, rfl⟩
  · have hz : s.size = 0 := by omega
    rw [if_pos (List.eq_nil_of_length_eq_zero (show (bl s).length = 0 by omega))]
    go_enter Tryd.func27, Tryd.ntmps27
    go_wp2
    go_ret
    exact ⟨rfl, rfl⟩
theorem bl_drop (s : ByteArray) (n : Nat) : bl (s.extract n s.size) = (bl s).drop n := by
  have h := bl_len s
  show (s.extract n s.size).data.toList = s.data.toList.drop n
  rw [ByteArray.data_extract, Array.toList_extract, List.extract_eq_take_drop]
  exact List.take_of_length_le (by rw [List.length_drop]; have : s.data.toList.length = s.size := h; omega)
theorem bl_take (s : ByteArray) (n : Nat) : bl (s.extract 0 n) = (bl s).take n := by
  show (s.extract 0 n).data.toList = s.data.toList.take n
  rw [ByteArray.data_extract, Array.toList_extract, List.extract_eq_take_drop]
  simp
set_option maxHeartbeats 800000 in
set_option maxRecDepth 100000 in
theorem C_inum {b : Nat} {st : St} {w : World} (most : Int) (h : IsIn b st w) :
    Calls Tryd.prog 24 #[.pointer (some ⟨b, 0, none⟩), .int .i64 most] w fun e w' => e = .returned (.int .i64 (inNum most st).1) ∧ IsIn b (inNum most st).2 w' ∧ Fi b w w' := by
  obtain ⟨l, e⟩ := st
  have h_ := h
  obtain ⟨s, hb, rfl, hs⟩ := h
  have c0 : w.cell? ⟨b, 0, none⟩ = some (.string s) := by rw [Lib.cell_of_heap hb]; rfl
  have c1 : w.cell? ⟨b, 1, none⟩ = some (.int .i64 e) := by rw [Lib.cell_of_heap hb]; rfl
  have f0 : w.frozen? ⟨b, 0, none⟩ = false := Lib.frozen_of_heap hb 0
  have hl := bl_len s
  unfold inNum
  by_cases he : e = 0
  · subst he
    rw [if_neg (by simp)]
    have hN : Calls Tryd.prog 36 #[.string s] w _ := C_number s w hs
    have hok := @hd_ok (bl s)
    rcases hq : hd (bl s) with ⟨x, k, f⟩
    rw [hq] at hN hok
    simp only at hN hok ⊢
    by_cases hf : f = 0
    · subst hf
      obtain ⟨hx, hk, hbl⟩ := hok rfl
      have hkl : k ≤ s.size := by
        have := congrArg List.length hbl
        rw [List.length_append, ← hk, hl, List.length_drop, hl] at this
        omega
      rw [if_neg (by simp)]
      clear hok hq hbl hk hl
      by_cases hm : most < (x : Int)
      · rw [if_pos hm]
        have hm' : (x : Int) > most := hm
        have hF : Calls Tryd.prog 37 #[.pointer (some ⟨b, 0, none⟩), .int .i64 4] w _ := C_fail 4 h_
        go_enter Tryd.func24, Tryd.ntmps24
        go_wp2_with (first | (go_at_call 36; with_reducible refine hN.mono ?_; rintro e w1 ⟨rfl, rfl⟩) | (go_at_call 37; with_reducible refine hF.mono ?_; rintro e w1 ⟨rfl, h1, g1⟩))
        go_ret
        exact ⟨rfl, h1, g1⟩
      · rw [if_neg hm]
        have hm' : ¬ (x : Int) > most := hm
        have hk' : (0 : Int) ≤ (k : Int) := by omega
        have hk'' : (k : Int) ≤ (s.size : Int) := by omega
        go_enter Tryd.func24, Tryd.ntmps24
        go_wp2_with (first | (go_at_call 36; with_reducible refine hN.mono ?_; rintro e w1 ⟨rfl, rfl⟩))
        go_ret
        exact ⟨rfl, ⟨_, set_heap hb _, bl_drop _ _, by simp; omega⟩, (Fi.refl _ _).set _ _ _⟩
    · rw [if_pos hf]
      have hf' : ¬ (f : Int) = 0 := by omega
      have hf2 : ((f : Int) != 0) = true := by simpa using hf
      have hf3 : ((f : Int) == 0) = false := by simpa using hf
      have hF : Calls Tryd.prog 37 #[.pointer (some ⟨b, 0, none⟩), .int .i64 f] w _ := C_fail f h_
      have hfl : fail f (bl s, 0) = ([], f) := by unfold fail; rw [if_pos ⟨rfl, hf⟩]
      rw [hfl] at hF
      clear hf hok hq hl hfl
      go_enter Tryd.func24, Tryd.ntmps24
      go_wp2_with (first | (go_at_call 36; with_reducible refine hN.mono ?_; rintro e w1 ⟨rfl, rfl⟩) | (go_at_call 37; with_reducible refine hF.mono ?_; rintro e w1 ⟨rfl, h1, g1⟩))
      go_ret
      exact ⟨rfl, h1, g1⟩
  · rw [if_pos he]
    have he' : ¬ (e : Int) = 0 := by omega
    have he2 : ((e : Int) != 0) = true := by simpa using he
    clear he
    go_enter Tryd.func24, Tryd.ntmps24
    go_wp2
    go_ret
    exact ⟨rfl, h_, Fi.refl _ _⟩
set_option maxHeartbeats 800000 in
set_option maxRecDepth 100000 in
theorem C_iraw {b : Nat} {st : St} {w : World} (n : Int) (hn : -9223372036854775808 ≤ n) (hn2 : n ≤ 9223372036854775807) (h : IsIn b st w) :
    Calls Tryd.prog 26 #[.pointer (some ⟨b, 0, none⟩), .int .i64 n] w fun e w' => e = .returned (.string (S (inRaw n.toNat st).1)) ∧ IsIn b (inRaw n.toNat st).2 w' ∧ Fi b w w' := by
  obtain ⟨l, e⟩ := st
  have h_ := h
  obtain ⟨s, hb, rfl, hs⟩ := h
  have c0 : w.cell? ⟨b, 0, none⟩ = some (.string s) := by rw [Lib.cell_of_heap hb]; rfl
  have c1 : w.cell? ⟨b, 1, none⟩ = some (.int .i64 e) := by rw [Lib.cell_of_heap hb]; rfl
  have f0 : w.frozen? ⟨b, 0, none⟩ = false := Lib.frozen_of_heap hb 0
  have hl := bl_len s
  obtain ⟨m, hm⟩ : ∃ m : Nat, max n 0 = (m : Int) := ⟨n.toNat, by omega⟩
  have hnm : n.toNat = m := by omega
  rw [hnm]
  have hm1 : m ≤ 9223372036854775807 := by omega
  have hF : Calls Tryd.prog 37 #[.pointer (some ⟨b, 0, none⟩), .int .i64 2] w _ := C_fail 2 h_
  clear hnm
  unfold inRaw
  by_cases he : e = 0
  · subst he
    rw [if_neg (by simp)]
    by_cases hlt : s.size < m
    · have hlt' : (m : Int) > (s.size : Int) := by omega
      rw [if_pos (by rw [← hl] at hlt; exact hlt)]
      have hfl : fail 2 (bl s, 0) = ([], 2) := rfl
      rw [hfl] at hF
      clear hl hfl
      go_enter Tryd.func26, Tryd.ntmps26
      go_wp2_with (first | (go_at_call 37; with_reducible refine hF.mono ?_; rintro e w1 ⟨rfl, h1, g1⟩; have d1 := h1.cell1))
      go_ret
      exact ⟨rfl, h1, g1⟩
    · have hlt' : ¬ (m : Int) > (s.size : Int) := by omega
      rw [if_neg (by rw [← hl] at hlt; exact hlt)]
      have hm2 : (0 : Int) ≤ (m : Int) := by omega
      have hm3 : (m : Int) ≤ (s.size : Int) := by omega
      clear hl
      go_enter Tryd.func26, Tryd.ntmps26
      go_wp2
      go_ret
      exact ⟨ret_str (by rw [← bl_take, S_bl]), ⟨_, set_heap hb _, bl_drop _ _, by simp; omega⟩, (Fi.refl _ _).set _ _ _⟩
  · rw [if_pos he]
    have he' : ¬ (e : Int) = 0 := by omega
    have he2 : ((e : Int) != 0) = true := by simpa using he
    have hfl : fail 2 (bl s, e) = (bl s, e) := by unfold fail; rw [if_neg (by simp [he])]
    rw [hfl] at hF
    clear he hl hfl
    by_cases hlt : (m : Int) > (s.size : Int)
    · go_enter Tryd.func26, Tryd.ntmps26
      go_wp2_with (first | (go_at_call 37; with_reducible refine hF.mono ?_; rintro e w1 ⟨rfl, h1, g1⟩; have d1 := h1.cell1))
      go_ret
      exact ⟨rfl, h1, g1⟩
    · have hlt' : (m : Int) ≤ (s.size : Int) := by omega
      go_enter Tryd.func26, Tryd.ntmps26
      go_wp2
      go_ret
      exact ⟨rfl, h_, Fi.refl _ _⟩
theorem inNum_le (most : Int) (st : St) : (inNum most st).1 < 9223372036854775808 := by
  unfold inNum
  split
  · simp
  · split
    · simp
    · split
      · simp
      · rename_i h1 h2 h3
        have := @hd_ok st.1 (hd st.1).1 (hd st.1).2.1
        have e : (hd st.1).2.2 = 0 := by omega
        exact (this (by rw [← e])).1
set_option maxHeartbeats 800000 in
set_option maxRecDepth 100000 in
theorem C_itext {b : Nat} {st : St} {w : World} (most : Int) (h : IsIn b st w) :
    Calls Tryd.prog 25 #[.pointer (some ⟨b, 0, none⟩), .int .i64 most] w fun e w' => e = .returned (.string (S (inText most st).1)) ∧ IsIn b (inText most st).2 w' ∧ Fi b w w' := by
  have hle := inNum_le (max most 0) st
  obtain ⟨M, hM⟩ : ∃ M, max most 0 = M := ⟨_, rfl⟩
  unfold inText
  rw [hM] at hle ⊢
  go_enter Tryd.func25, Tryd.ntmps25
  go_wp2_with (first | (go_at_call 24; with_reducible refine (C_inum M h).mono ?_; rintro e w1 ⟨rfl, h1, g1⟩) | (go_at_call 26; with_reducible refine (C_iraw ((inNum M st).1 : Int) (by omega) (by omega) h1).mono ?_; rintro e w2 ⟨rfl, h2, g2⟩))
  go_ret
  exact ⟨rfl, h2, g1.trans g2⟩
/-! ### the writer's other calls -/
set_option maxHeartbeats 800000 in
set_option maxRecDepth 100000 in
theorem C_oraw {B b : Nat} {l : List UInt8} {w : World} (s : ByteArray) (h : Bd 52 B b l w) (hlen : l.length + s.size ≤ 140737488355328) :
    Calls Tryd.prog 20 #[.pointer (some ⟨b, 0, none⟩), .string s] w fun e w' => e = .returned (.pointer (some ⟨b, 0, none⟩)) ∧ Bd 52 B b (l ++ bl s) w' ∧ Fr B b w w' := by
  go_enter Tryd.func20, Tryd.ntmps20
  go_wp2_with (first | (go_at_call 31; with_reducible refine (C_str bt_out s h hlen).mono ?_; rintro e w1 ⟨rfl, h1, g1⟩))
  go_ret
  exact ⟨rfl, h1, g1⟩
theorem numB_len_le {x : Nat} (h : x < 9223372036854775808) : (numB x).length ≤ 9 := by rw [numB_len]; have := digs_len_8 h; omega
set_option maxHeartbeats 800000 in
set_option maxRecDepth 100000 in
theorem C_otext {B b : Nat} {l : List UInt8} {w : World} (s : ByteArray) (h : Bd 52 B b l w) (hlen : l.length + s.size ≤ 100000000000000) :
    Calls Tryd.prog 19 #[.pointer (some ⟨b, 0, none⟩), .string s] w fun e w' => e = .returned (.pointer (some ⟨b, 0, none⟩)) ∧ Bd 52 B b (l ++ (numB s.size ++ bl s)) w' ∧ Fr B b w w' := by
  have hn := numB_len_le (x := s.size) (by omega)
  go_enter Tryd.func19, Tryd.ntmps19
  go_wp2_with (first | (go_at_call 18; with_reducible refine (C_onum (s.size : Int) (by omega) (by omega) h (by omega)).mono ?_; rintro e w1 ⟨rfl, h1, g1⟩) | (go_at_call 20; with_reducible refine (C_oraw s h1 (by simp; omega)).mono ?_; rintro e w2 ⟨rfl, h2, g2⟩))
  go_ret
  exact ⟨rfl, by rw [← List.append_assoc]; exact h2, g1.trans g2⟩
set_option maxHeartbeats 800000 in
set_option maxRecDepth 100000 in
theorem C_obytes {B b : Nat} {l : List UInt8} {w : World} (h : Bd 52 B b l w) (h0 : l ≠ []) :
    Calls Tryd.prog 21 #[.pointer (some ⟨b, 0, none⟩)] w fun e w' => e = .returned (.string (S l)) ∧ Bd 52 B b l w' ∧ Fr B b w w' := by
  go_enter Tryd.func21, Tryd.ntmps21
  go_wp2_with (first | (go_at_call 32; with_reducible refine (C_string h h0).mono ?_; rintro e w1 ⟨rfl, h1, g1⟩))
  go_ret
  exact ⟨rfl, h1, g1⟩
theorem Bd.fresh {B b : Nat} {w : World} (h : w.heap[b]? = some (.cells #[.pointer none, .slice none 0 0] 52 (0, 0))) (hB : B ≤ b) : Bd 52 B b [] w :=
  .inl ⟨hB, _, h, World.ownsRowF_nil _ _ _ _, by simp [Value.ownBlock]⟩
/-- a block of another type is kept -/
theorem Fr.kept {B b : Nat} {w w' : World} (h : Fr B b w w') {k : Nat} {cs : Array Value} {t : TypeId} {fz : Nat × Nat} (hk : w.heap[k]? = some (.cells cs t fz)) (hne : k ≠ b) (ht : t ≠ 5) : w'.heap[k]? = some (.cells cs t fz) :=
  h.2 k _ hk (by intro e; exact hne (by injection e)) (by intro c f e; injection e with _ e2 _; exact ht e2)
theorem Fi.below {B b : Nat} {w w' : World} (h : Fi b w w') (hB : B ≤ b) (hw : B ≤ w.heap.size) : Below B w w' :=
  ⟨h.os, h.tape, h.output, h.size, fun k hk => h.block k (by omega) (by intro e; injection e with e; omega)⟩
theorem Bd.new (w : World) : Bd 52 w.heap.size w.heap.size [] (w.alloc (.cells #[.pointer none, .slice none 0 0] 52)) :=
  Lib.IsBuilderF.of (Lib.fresh_isBuilder _ _ w)
end Go.Proofs.YtdpkodhfelnedaaDoor.Cod
