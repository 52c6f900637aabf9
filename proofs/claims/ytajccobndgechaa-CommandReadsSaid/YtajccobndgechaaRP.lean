/- ref20.Parse tells the same as command.Parse; what is parsed has just those bytes. -/
import Derived.Test.YtajccobndgechaaRParse
import Derived.Test.YtajccobndgechaaWalkCommandUnlike
namespace Go.Proofs.Ytajccobndgechaa.Cod
open Go.RowKit
theorem inNum_cases (m : Int) (l : List UInt8) : (∃ x r, inNum m (l, 0) = (x, (r, 0)) ∧ l = numB x ++ r ∧ x < 9223372036854775808 ∧ (x : Int) ≤ m) ∨ (∃ e, e ≠ 0 ∧ inNum m (l, 0) = (0, ([], e))) := by
  unfold inNum
  simp only [ne_eq, not_true_eq_false, if_false]
  by_cases he : (hd l).2.2 = 0
  · obtain ⟨h1, h2, h3⟩ := @hd_ok l (hd l).1 (hd l).2.1 (by rw [← he])
    rw [if_neg (by simpa using he)]
    by_cases hm : m < ((hd l).1 : Int)
    · rw [if_pos hm]
      exact .inr ⟨4, by omega, rfl⟩
    · rw [if_neg hm]
      exact .inl ⟨_, _, rfl, h3, h1, by omega⟩
  · rw [if_pos (by simpa using he)]
    exact .inr ⟨_, he, rfl⟩
theorem numOf (l : List UInt8) (m : Int) (hl : l.length ≤ 140737488351232) : (∃ x r, inNum m (l, 0) = (x, (r, 0)) ∧ r.length ≤ l.length ∧ NumIs (S l) m x (S r)) ∨ (∃ e, e ≠ 0 ∧ inNum m (l, 0) = (0, ([], e)) ∧ NumNot (S l) m 0 (S []) e) := by
  have hC := fun v => C_rnum (S l) m (by rw [S_size]; exact hl) v
  rw [bl_S] at hC
  rcases inNum_cases m l with ⟨x, r, e, h, _, _⟩ | ⟨e1, h, e⟩
  · refine .inl ⟨x, r, e, by rw [h]; simp, fun v => ?_⟩
    have := hC v
    rw [e] at this
    exact this.mono fun e w' ⟨h1, h2⟩ => ⟨h1, h2.symm⟩
  · refine .inr ⟨e1, h, e, fun v => ?_⟩
    have := hC v
    rw [e] at this
    refine this.mono fun e w' ⟨h1, h2⟩ => ⟨h1, ?_⟩
    unfold after at h2
    rw [if_neg h] at h2
    exact h2.symm
theorem rchkOf (k : Int) (s : ByteArray) (r : Bool) (n : Int) (hs : s.size ≤ 140737488351232) : RChk k s r n (own k s r n).chk := fun v => C_rcheck k s r n hs v
def RP (s : ByteArray) (c : Cmd × Nat) : Prop := ∃ (k : Int) (t : ByteArray) (r : Bool) (n : Int), own k t r n = c.1 ∧ ∀ w, Calls Try.prog 54 #[.string s] w fun f w' => f = .returned (.tuple #[.agg #[.int .i64 k, .string t, .bool r, .int .i64 n], .int .i64 c.2]) ∧ Below w.heap.size w w'
theorem RP.none {s : ByteArray} {e : Nat} (h : ∀ w, Calls Try.prog 54 #[.string s] w fun f w' => f = .returned (.tuple #[.agg #[.int .i64 0, .string ⟨#[]⟩, .bool false, .int .i64 0], .int .i64 e]) ∧ Below w.heap.size w w') : RP s (.none, e) := ⟨0, _, _, _, rfl, h⟩
theorem tail_err (c : Cmd) {e : Nat} (h : e ≠ 0) : tail c ([], e) = (.none, e) := by
  unfold tail inEnd
  rw [if_pos rfl, if_pos h]
theorem tail_left (c : Cmd) {r : List UInt8} (h : r ≠ []) : tail c (r, 0) = (.none, 3) := by
  unfold tail inEnd
  rw [if_neg h, if_pos (by omega)]
theorem tail_bad (c : Cmd) (h : c.chk ≠ 0) : tail c ([], 0) = (.none, c.chk) := by
  unfold tail inEnd
  rw [if_pos rfl, if_neg (by simp), if_pos h]
theorem tail_good (c : Cmd) (h : c.chk = 0) : tail c ([], 0) = (c, 0) := by
  unfold tail inEnd
  rw [if_pos rfl, if_neg (by simp), if_neg (by simpa using h)]
theorem inText_err (m : Int) (l : List UInt8) {e : Nat} (h : e ≠ 0) : inText m (l, e) = ([], (l, e)) := by
  unfold inText inNum inRaw
  simp [h]
theorem inText_of {l r : List UInt8} {n : Nat} (h : inNum 4096 (l, 0) = (n, (r, 0))) : inText 4096 (l, 0) = inRaw n (r, 0) := by
  unfold inText
  rw [show max (4096 : Int) 0 = 4096 by decide, h]
theorem inText_not {l : List UInt8} {e : Nat} (h : inNum 4096 (l, 0) = (0, ([], e))) (he : e ≠ 0) : inText 4096 (l, 0) = ([], ([], e)) := by
  unfold inText
  rw [show max (4096 : Int) 0 = 4096 by decide, h]
  unfold inRaw
  simp [he]
theorem empty_iff (s : ByteArray) : (s.toList == ([] : List UInt8)) = decide (bl s = []) := by
  rw [ByteArray.toList_eq]
  by_cases h : s.data.toList = []
  · rw [h]; simp [bl, h]
  · rw [beq_eq_false_iff_ne.2 h, decide_eq_false (show ¬ bl s = [] from h)]
theorem int_beq1 (x : Nat) : ((x : Int) == 1) = decide (x = 1) := int_beq x 1
theorem emptyS (l : List UInt8) : ((S l).toList == ([] : List UInt8)) = decide (l = []) := by rw [empty_iff, bl_S]
theorem cut_left (r : List UInt8) (n : Nat) : (S r).extract 0 n = S (r.take n) := eq_S (by rw [bl_take, bl_S])
theorem cut_right (r : List UInt8) (n : Nat) : (S r).extract n (S r).size = S (r.drop n) := eq_S (by rw [bl_drop, bl_S])
theorem RP_all (l : List UInt8) (hl : l.length ≤ 140737488351232) : RP (S l) (cparse l) := by
  unfold cparse
  rcases numOf l 255 hl with ⟨k, r1, e1, l1, N1⟩ | ⟨e, he, e1, N1⟩
  case inr =>
    rw [e1]
    simp only [ne_eq, he, not_false_eq_true, if_true]
    rw [tail_err _ he]
    exact RP.none (rp_e1 _ _ _ _ (by omega) N1)
  rw [e1]
  simp only [ne_eq, not_true_eq_false, if_false]
  by_cases k1 : k = 1
  · subst k1
    simp only [if_true]
    rcases numOf r1 1 (by omega) with ⟨x, r2, e2, l2, N2⟩ | ⟨e, he, e2, N2⟩
    case inr =>
      rw [e2]
      simp only
      rw [inText_err _ _ he, tail_err _ he]
      exact RP.none (rp_e2_1 _ _ N1 _ _ _ (by omega) N2)
    rw [e2]
    simp only
    rcases numOf r2 4096 (by omega) with ⟨n, r3, e3, l3, N3⟩ | ⟨e, he, e3, N3⟩
    case inr =>
      rw [inText_not e3 he, tail_err _ he]
      exact RP.none (rp_e3_1 _ _ N1 _ _ N2 _ _ _ (by omega) N3)
    rw [inText_of e3]
    unfold inRaw
    simp only [ne_eq, not_true_eq_false, if_false]
    by_cases hn : r3.length < n
    · rw [if_pos hn, tail_err _ (by omega)]
      exact RP.none (rp_long_1 _ _ N1 _ _ N2 _ _ N3 (by rw [S_size]; omega))
    rw [if_neg hn]
    have hn' : (n : Int) ≤ ((S r3).size : Int) := by rw [S_size]; omega
    by_cases ht : r3.drop n = []
    case neg =>
      simp only
      rw [tail_left _ ht]
      exact RP.none (rp_trail_1 _ _ N1 _ _ N2 _ _ N3 hn' (by rw [cut_right, emptyS]; exact decide_eq_false ht))
    simp only
    rw [ht]
    have ht' : (((S r3).extract n (S r3).size).toList == ([] : List UInt8)) = true := by rw [cut_right, emptyS]; exact decide_eq_true ht
    have hR := rchkOf 1 ((S r3).extract 0 n) ((x : Int) == 1) 0 (by rw [cut_left, S_size, List.length_take]; omega)
    have ho : own 1 ((S r3).extract 0 n) ((x : Int) == 1) 0 = (Cmd.block (S (r3.take n)) (decide (x = 1))) := by rw [cut_left]; rw [int_beq1 x]; rfl
    rw [ho] at hR

    by_cases hc : (Cmd.block (S (r3.take n)) (decide (x = 1))).chk = 0
    · rw [tail_good _ hc]
      rw [hc] at hR
      exact ⟨_, _, _, _, ho, rp_ok_1 _ _ N1 _ _ N2 _ _ N3 hn' ht' hR⟩
    · rw [tail_bad _ hc]
      exact RP.none (rp_chk_1 _ _ N1 _ _ N2 _ _ N3 hn' ht' _ (by omega) hR)
  simp only [k1, if_false]
  by_cases k2 : k = 2
  · subst k2
    simp only [Nat.reduceEqDiff, if_false, if_true]
    rcases numOf r1 1 (by omega) with ⟨x, r2, e2, l2, N2⟩ | ⟨e, he, e2, N2⟩
    case inr =>
      rw [e2]
      simp only
      rw [inText_err _ _ he, tail_err _ he]
      exact RP.none (rp_e2_2 _ _ N1 _ _ _ (by omega) N2)
    rw [e2]
    simp only
    rcases numOf r2 4096 (by omega) with ⟨n, r3, e3, l3, N3⟩ | ⟨e, he, e3, N3⟩
    case inr =>
      rw [inText_not e3 he, tail_err _ he]
      exact RP.none (rp_e3_2 _ _ N1 _ _ N2 _ _ _ (by omega) N3)
    rw [inText_of e3]
    unfold inRaw
    simp only [ne_eq, not_true_eq_false, if_false]
    by_cases hn : r3.length < n
    · rw [if_pos hn, tail_err _ (by omega)]
      exact RP.none (rp_long_2 _ _ N1 _ _ N2 _ _ N3 (by rw [S_size]; omega))
    rw [if_neg hn]
    have hn' : (n : Int) ≤ ((S r3).size : Int) := by rw [S_size]; omega
    by_cases ht : r3.drop n = []
    case neg =>
      simp only
      rw [tail_left _ ht]
      exact RP.none (rp_trail_2 _ _ N1 _ _ N2 _ _ N3 hn' (by rw [cut_right, emptyS]; exact decide_eq_false ht))
    simp only
    rw [ht]
    have ht' : (((S r3).extract n (S r3).size).toList == ([] : List UInt8)) = true := by rw [cut_right, emptyS]; exact decide_eq_true ht
    have hR := rchkOf 2 ((S r3).extract 0 n) ((x : Int) == 1) 0 (by rw [cut_left, S_size, List.length_take]; omega)
    have ho : own 2 ((S r3).extract 0 n) ((x : Int) == 1) 0 = (Cmd.cert (S (r3.take n)) (decide (x = 1))) := by rw [cut_left]; rw [int_beq1 x]; rfl
    rw [ho] at hR

    by_cases hc : (Cmd.cert (S (r3.take n)) (decide (x = 1))).chk = 0
    · rw [tail_good _ hc]
      rw [hc] at hR
      exact ⟨_, _, _, _, ho, rp_ok_2 _ _ N1 _ _ N2 _ _ N3 hn' ht' hR⟩
    · rw [tail_bad _ hc]
      exact RP.none (rp_chk_2 _ _ N1 _ _ N2 _ _ N3 hn' ht' _ (by omega) hR)
  simp only [k2, if_false]
  by_cases k3 : k = 3
  · subst k3
    simp only [Nat.reduceEqDiff, if_false, if_true]
    rcases numOf r1 4611686018427387904 (by omega) with ⟨x, r2, e2, l2, N2⟩ | ⟨e, he, e2, N2⟩
    case inr =>
      rw [e2]
      simp only
      rw [tail_err _ he]
      exact RP.none (rp_e2_3 _ _ N1 _ _ _ (by omega) N2)
    rw [e2]
    simp only
    by_cases ht : r2 = []
    case neg =>
      rw [tail_left _ ht]
      exact RP.none (rp_trail_3 _ _ N1 _ _ N2 (by rw [emptyS]; exact decide_eq_false ht))
    have ht' : ((S r2).toList == ([] : List UInt8)) = true := by rw [emptyS]; exact decide_eq_true ht
    have hR := rchkOf 3 ⟨#[]⟩ false x (by decide)
    have ho : own 3 ⟨#[]⟩ false x = Cmd.clock x := rfl
    rw [ho] at hR
    rw [ht]
    by_cases hc : (Cmd.clock x).chk = 0
    · rw [tail_good _ hc]
      rw [hc] at hR
      exact ⟨_, _, _, _, ho, rp_ok_3 _ _ N1 _ _ N2 ht' hR⟩
    · rw [tail_bad _ hc]
      exact RP.none (rp_chk_3 _ _ N1 _ _ N2 ht' _ (by omega) hR)
  simp only [k3, if_false]
  by_cases k4 : k = 4
  · subst k4
    simp only [if_true]
    rcases numOf r1 4096 (by omega) with ⟨n, r3, e3, l3, N3⟩ | ⟨e, he, e3, N3⟩
    case inr =>
      rw [inText_not e3 he, tail_err _ he]
      exact RP.none (rp_e3_4 _ _ N1 _ _ _ (by omega) N3)
    rw [inText_of e3]
    unfold inRaw
    simp only [ne_eq, not_true_eq_false, if_false]
    by_cases hn : r3.length < n
    · rw [if_pos hn, tail_err _ (by omega)]
      exact RP.none (rp_long_4 _ _ N1 _ _ N3 (by rw [S_size]; omega))
    rw [if_neg hn]
    have hn' : (n : Int) ≤ ((S r3).size : Int) := by rw [S_size]; omega
    by_cases ht : r3.drop n = []
    case neg =>
      simp only
      rw [tail_left _ ht]
      exact RP.none (rp_trail_4 _ _ N1 _ _ N3 hn' (by rw [cut_right, emptyS]; exact decide_eq_false ht))
    simp only
    rw [ht]
    have ht' : (((S r3).extract n (S r3).size).toList == ([] : List UInt8)) = true := by rw [cut_right, emptyS]; exact decide_eq_true ht
    have hR := rchkOf 4 ((S r3).extract 0 n) false 0 (by rw [cut_left, S_size, List.length_take]; omega)
    have ho : own 4 ((S r3).extract 0 n) false 0 = (Cmd.mark (S (r3.take n))) := by rw [cut_left]; rfl
    rw [ho] at hR

    by_cases hc : (Cmd.mark (S (r3.take n))).chk = 0
    · rw [tail_good _ hc]
      rw [hc] at hR
      exact ⟨_, _, _, _, ho, rp_ok_4 _ _ N1 _ _ N3 hn' ht' hR⟩
    · rw [tail_bad _ hc]
      exact RP.none (rp_chk_4 _ _ N1 _ _ N3 hn' ht' _ (by omega) hR)
  simp only [k4, if_false]
  by_cases k5 : k = 5
  · subst k5
    simp only [if_true]
    by_cases ht : r1 = []
    case neg =>
      rw [tail_left _ ht]
      exact RP.none (rp_trail_5 _ _ N1 (by rw [emptyS]; exact decide_eq_false ht))
    have ht' : ((S r1).toList == ([] : List UInt8)) = true := by rw [emptyS]; exact decide_eq_true ht
    have hR := rchkOf 5 ⟨#[]⟩ false 0 (by decide)
    have ho : own 5 ⟨#[]⟩ false 0 = Cmd.unmark := rfl
    rw [ho] at hR
    rw [ht, tail_good _ rfl]
    exact ⟨_, _, _, _, ho, rp_ok_5 _ _ N1 ht' hR⟩
  simp only [k5, if_false]
  have hf : fail 18 (r1, 0) = ([], 18) := by unfold fail; rw [if_pos (by simp)]
  rw [hf, tail_err _ (by omega)]
  by_cases k0 : k = 0
  · subst k0
    exact RP.none (rp_low _ _ N1)
  · exact RP.none (rp_high _ k _ (by omega) (by omega) N1)
theorem inNum_ok {m : Int} {l r : List UInt8} {x : Nat} (h : inNum m (l, 0) = (x, (r, 0))) : l = numB x ++ r := by
  rcases inNum_cases m l with ⟨x', r', e, h2, _, _⟩ | ⟨e1, h2, e⟩
  · rw [e] at h; injection h with h3 h4; injection h4 with h4 _; subst h3 h4; exact h2
  · rw [e] at h; injection h with _ h4; injection h4 with _ h5; exact absurd h5 h2
theorem inText_txt {l r t : List UInt8} (h : inText 4096 (l, 0) = (t, (r, 0))) : l = txt (S t) ++ r := by
  rcases inNum_cases 4096 l with ⟨x, r', e, h2, _, _⟩ | ⟨e1, h2, e⟩
  · rw [inText_of e] at h
    unfold inRaw at h
    simp only [ne_eq, not_true_eq_false, if_false] at h
    by_cases hn : r'.length < x
    · rw [if_pos hn] at h; injection h with _ h4; injection h4 with _ h5; exact absurd h5 (by omega)
    · rw [if_neg hn] at h
      injection h with h3 h4
      injection h4 with h4 _
      subst h3 h4
      unfold txt
      rw [S_size, bl_S, List.length_take, Nat.min_eq_left (by omega), List.append_assoc, List.take_append_drop]
      exact h2
  · rw [inText_not e h2] at h; injection h with _ h4; injection h4 with _ h5; exact absurd h5 h2
theorem tail_zero {c d : Cmd} {st : St} (h : tail c st = (d, 0)) : c = d ∧ st = ([], 0) ∧ c.chk = 0 := by
  rcases tail3 c st with ⟨y, _, hy, e⟩ | ⟨_, y, _, hy, e⟩ | ⟨e1, e2, e⟩
  · rw [e] at h; injection h with _ h; exact absurd h hy
  · rw [e] at h; injection h with _ h; exact absurd h hy
  · rw [e] at h
    injection h with h _
    refine ⟨h, ?_, e2⟩
    obtain ⟨a, b⟩ := st
    unfold inEnd at e1
    by_cases ha : a = []
    · rw [if_pos ha] at e1; simp only at ha e1; rw [ha, e1]
    · rw [if_neg ha] at e1; omega
theorem tail_not {c d : Cmd} {st : St} {e : Nat} (h : tail c st = (d, e)) (he : e ≠ 0) : d = .none := by
  rcases tail3 c st with ⟨y, _, hy, q⟩ | ⟨_, y, _, hy, q⟩ | ⟨_, _, q⟩
  · rw [q] at h; injection h with h _; exact h.symm
  · rw [q] at h; injection h with h _; exact h.symm
  · rw [q] at h; injection h with _ h; exact absurd h.symm he
theorem cparse_not {l : List UInt8} (he : (cparse l).2 ≠ 0) : (cparse l).1 = .none := by
  have h : ∀ p : Cmd × Nat, p = cparse l → p.2 ≠ 0 → p.1 = .none := by
    intro p hp hne
    unfold cparse at hp
    obtain ⟨d, e⟩ := p
    split at hp
    · exact tail_not hp.symm hne
    · split at hp
      · exact tail_not hp.symm hne
      · split at hp
        · exact tail_not hp.symm hne
        · split at hp
          · exact tail_not hp.symm hne
          · split at hp
            · exact tail_not hp.symm hne
            · split at hp
              · exact tail_not hp.symm hne
              · exact tail_not hp.symm hne
  exact h _ rfl he
theorem bit_of {x : Nat} (h : (x : Int) ≤ 1) : bit (decide (x = 1)) = x := by
  have : x = 0 ∨ x = 1 := by omega
  rcases this with rfl | rfl <;> rfl
def Good (l : List UInt8) (p : Cmd × Nat) : Prop := p.2 = 0 → p.1.chk = 0 ∧ p.1.body = l
theorem good_err (l : List UInt8) (c : Cmd) {e : Nat} (h : e ≠ 0) : Good l (tail c ([], e)) := fun k => by rw [tail_err c h] at k; exact absurd k h
theorem good_tail (l : List UInt8) (c : Cmd) (st : St) (h : st = ([], 0) → c.body = l) : Good l (tail c st) := fun k => by
  obtain ⟨_, h2, h3⟩ := @tail_zero c (tail c st).1 st (by rw [← k])
  rw [h2, tail_good c h3]
  exact ⟨h3, h h2⟩
theorem cparse_good (l : List UInt8) : Good l (cparse l) := by
  unfold cparse
  rcases inNum_cases 255 l with ⟨k, r1, e1, hl, _, _⟩ | ⟨e, he, e1⟩
  case inr =>
    rw [e1]
    simp only [ne_eq, he, not_false_eq_true, if_true]
    exact good_err l _ he
  rw [e1]
  simp only [ne_eq, not_true_eq_false, if_false]
  by_cases k1 : k = 1
  · subst k1
    simp only [if_true]
    rcases inNum_cases 1 r1 with ⟨x, r2, e2, h2, _, hx⟩ | ⟨e, he, e2⟩
    case inr =>
      rw [e2]
      simp only
      rw [inText_err _ _ he]
      exact good_err l _ he
    rw [e2]
    refine good_tail l _ _ fun h => ?_
    have := @inText_txt r2 [] (inText 4096 (r2, 0)).1 (by rw [← h])
    rw [List.append_nil] at this
    show numB 1 ++ (numB (bit (decide (x = 1))) ++ txt _) = l
    rw [bit_of hx, ← this, ← h2, hl]
  simp only [k1, if_false]
  by_cases k2 : k = 2
  · subst k2
    simp only [if_true]
    rcases inNum_cases 1 r1 with ⟨x, r2, e2, h2, _, hx⟩ | ⟨e, he, e2⟩
    case inr =>
      rw [e2]
      simp only
      rw [inText_err _ _ he]
      exact good_err l _ he
    rw [e2]
    refine good_tail l _ _ fun h => ?_
    have := @inText_txt r2 [] (inText 4096 (r2, 0)).1 (by rw [← h])
    rw [List.append_nil] at this
    show numB 2 ++ (numB (bit (decide (x = 1))) ++ txt _) = l
    rw [bit_of hx, ← this, ← h2, hl]
  simp only [k2, if_false]
  by_cases k3 : k = 3
  · subst k3
    simp only [if_true]
    rcases inNum_cases 4611686018427387904 r1 with ⟨x, r2, e2, h2, _, hx⟩ | ⟨e, he, e2⟩
    case inr =>
      rw [e2]
      exact good_err l _ he
    rw [e2]
    refine good_tail l _ _ fun h => ?_
    show numB 3 ++ numB ((x : Nat) : Int).toNat = l
    simp only [Prod.mk.injEq] at h
    rw [h.1, List.append_nil] at h2
    rw [hl, h2]
    rfl
  simp only [k3, if_false]
  by_cases k4 : k = 4
  · subst k4
    simp only [if_true]
    refine good_tail l _ _ fun h => ?_
    have := @inText_txt r1 [] (inText 4096 (r1, 0)).1 (by rw [← h])
    rw [List.append_nil] at this
    show numB 4 ++ txt _ = l
    rw [← this, hl]
  simp only [k4, if_false]
  by_cases k5 : k = 5
  · subst k5
    simp only [if_true]
    refine good_tail l _ _ fun h => ?_
    simp only [Prod.mk.injEq] at h
    rw [h.1, List.append_nil] at hl
    exact hl.symm
  simp only [k5, if_false]
  refine good_tail l _ _ fun h => ?_
  unfold fail at h
  rw [if_pos (by simp)] at h
  injection h with _ h
  exact absurd h (by omega)
end Go.Proofs.Ytajccobndgechaa.Cod
