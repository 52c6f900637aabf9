/- ref06.Parse: the walk. -/
import Derived.Test.YtgkiehefneamcaaTabP
import Derived.Test.YtgkiehefneamcaaHead
import Derived.Laws.OwnMore
namespace Go.Proofs.Ytgkiehefneamcaa.Cod
open Go.RowKit
def PPost (w : World) (R : List (Int × Int) × Int) (e : Ending) (w' : World) : Prop := ∃ A' c', e = .returned (.tuple #[.slice A' R.1.length c', .int .i64 R.2]) ∧ Ents w' A' R.1 ∧ Below w.heap.size w w'
theorem head_of {s : ByteArray} (hs : s.size ≤ 140737488351232) {x k e : Nat} (h : hd (bl s) = (x, k, e)) (v : World) : Calls Try.prog 45 #[.string s] v fun f w' => f = .returned (.tuple #[.int .i64 x, .int .i64 k, .int .i64 e]) ∧ v = w' := by
  have := C_head s v hs
  rw [h] at this
  exact this
set_option maxHeartbeats 1600000 in
set_option maxRecDepth 100000 in
theorem rparse_e1 (s : ByteArray) (hs : s.size ≤ 140737488351232) (x k e : Nat) (h : hd (bl s) = (x, k, e)) (he : e ≠ 0) (w : World) :
    Calls Try.prog 30 #[.string s] w (PPost w ([], (e : Int))) := by
  have hH := head_of hs h
  have he0 : ¬ (e : Int) = 0 := by omega
  have heb : ((e : Int) == 0) = false := by rw [beq_eq_false_iff_ne]; exact he0
  clear h he
  go_enter Try.func30, Try.ntmps30
  go_wp2_with (go_at_call 45; (with_reducible refine (hH _).mono ?_); rintro e1 w1 ⟨rfl, rfl⟩)
  go_ret2
  exact ⟨none, 0, rfl, ents_nil _ _, Below.refl _ _⟩
set_option maxHeartbeats 1600000 in
set_option maxRecDepth 100000 in
theorem rparse_e2 (s : ByteArray) (hs : s.size ≤ 140737488351232) (x k : Nat) (h : hd (bl s) = (x, k, 0)) (hx : 64 < (x : Int)) (w : World) :
    Calls Try.prog 30 #[.string s] w (PPost w ([], 4)) := by
  have hH := head_of hs h
  clear h
  go_enter Try.func30, Try.ntmps30
  go_wp2_with (go_at_call 45; (with_reducible refine (hH _).mono ?_); rintro e1 w1 ⟨rfl, rfl⟩)
  go_ret2
  exact ⟨none, 0, rfl, ents_nil _ _, Below.refl _ _⟩
theorem ec_set (q : List (Int × Int)) (a y b : Int) : (ec (q ++ [(a, y)])).set (q.length * 2 + 1) (.int .i64 b) = ec (q ++ [(a, b)]) := by
  rw [ec_snoc, ec_snoc, List.set_append_right _ _ (by rw [ec_len]; omega), ec_len, show q.length * 2 + 1 - q.length * 2 = 1 by omega]
  rfl
theorem bl_rest (s : ByteArray) (k : Nat) : bl (s.extract k s.size) = (bl s).drop k := bl_drop s k
theorem rest_size (s : ByteArray) (k : Nat) (hs : s.size ≤ 140737488351232) : (s.extract k s.size).size ≤ 140737488351232 := by
  have h := bl_len (s.extract k s.size)
  rw [bl_rest, List.length_drop, bl_len] at h
  omega
set_option maxHeartbeats 4000000 in
set_option maxRecDepth 100000 in
theorem rparse_ok (s : ByteArray) (hs : s.size ≤ 140737488351232) (n k : Nat) (h : hd (bl s) = (n, k, 0)) (hn : (n : Int) ≤ 64) (hk : k ≤ (bl s).length) (R : List (Int × Int) × Int)
    (hR : R = (let r := rd n ((bl s).drop k, 0); if r.2.2 ≠ 0 then ([], (r.2.2 : Int)) else if r.2.1 ≠ [] then ([], 3) else if newE r.1 ≠ 0 then ([], newE r.1) else (r.1, 0))) (w : World) :
    Calls Try.prog 30 #[.string s] w (PPost w R) := by
  obtain ⟨i0, hi, hz0, hz1, hz2⟩ := info_parts (show (Try.prog.info? 56).map (fun i => (i.zero, i.size, i.bytes)) = some (some (.agg #[.int .i64 0, .int .i64 0]), 2, 16) by kernel_rfl)
  have hH := head_of hs h
  rw [bl_len] at hk
  have hks : (k : Int) ≤ (s.size : Int) := by omega
  have hR' := Lib.hid hR
  have hbr := bl_rest s k
  have hbs := rest_size s k hs
  clear h hR
  obtain ⟨t0, et0⟩ : ∃ t0, s.extract k s.size = t0 := ⟨_, rfl⟩
  obtain ⟨st, est⟩ : ∃ st, st = ((bl s).drop k, 0) := ⟨_, rfl⟩
  have hbt : bl t0 = st.1 := by rw [← et0, hbr, est]
  have hbs0 : t0.size ≤ 140737488351232 := by rw [← et0]; exact hbs
  have hst : st.2 = 0 := by rw [est]
  rw [← est] at hR'
  clear hbr hbs est
  have ET := Lib.hid et0
  clear et0
  go_enter Try.func30, Try.ntmps30
  go_wp2_with (go_at_call 45; (with_reducible refine (hH _).mono ?_); rintro e1 w1 ⟨rfl, rfl⟩)
  rw [ET.out]
  have hn0 : (0 : Int) ≤ (n : Int) := by omega
  go_loopw [0, 7, 8] (fun sv v i wr => ∃ (j : Nat) (t : ByteArray), j ≤ 2 * n ∧ i = .int .i64 j ∧ sv = .string t ∧ bl t = (half st j).2.1 ∧ (half st j).2.2 = 0 ∧ t.size ≤ 140737488351232 ∧ wr.ownsRow w.heap.size 56 2 v (half st j).1.length (ec (half st j).1) ∧ Below w.heap.size w wr) (fun _ _ i _ => 2 * n - (intOf i).toNat)
  case atStart => exact ⟨0, t0, by omega, rfl, rfl, hbt, hst, hbs0, World.ownsRow_lit w #[] 0 (Nat.le_refl _) (Nat.zero_le _) rfl, (Below.refl _ _).alloc (Nat.le_refl _) _⟩
  case round =>
    obtain ⟨j, t, hj, rfl, rfl, htl, hte, hts, hown, hb⟩ := hrel
    by_cases hlt : j < 2 * n
    · have hlti : (j : Int) < 2 * (n : Int) := by omega
      have hstate : (half st j).2 = (bl t, 0) := by rw [htl, ← hte]
      have hsu := half_succ st j
      rw [hstate] at hsu
      have herr : ∀ e, e ≠ 0 → (inNum M40 (bl t, 0)) = (0, ([], e)) → R = ([], (e : Int)) := fun e he h1 => by
        have h2 : (half st (j + 1)).2 = ([], e) := by rw [hsu, h1]
        have h3 := half_stick st (j + 1) (2 * n) (by rw [h2]; exact he) (by omega)
        rw [half_even, h2] at h3
        have h4 := hR'.out
        simp only [h3] at h4
        rw [h4, if_pos he]
      have HERR := Lib.hid herr
      have HSU := Lib.hid hsu
      clear herr hsu htl hte hstate hH hbt hbs0 hst
      rcases hdM M40 (bl t) with ⟨x, kk, hh, hx, hin, hkl, hx63, _⟩ | ⟨x, kk, e, hh, he, hin⟩ | ⟨x, kk, hh, hx, hin⟩
      · have hH := head_of hts hh
        have hsu := HSU.out
        rw [hin] at hsu
        rw [bl_len] at hkl
        have hkls : (kk : Int) ≤ (t.size : Int) := by omega
        have hb2 : bl (t.extract kk t.size) = (half st (j + 1)).2.1 := by rw [bl_rest, hsu]
        have hz2 : (half st (j + 1)).2.2 = 0 := by rw [hsu]
        have hs2 := rest_size t kk hts
        unfold M40 at hx
        have HB2 := Lib.hid hb2
        have HZ2 := Lib.hid hz2
        clear hb2 hz2 hh hin HERR HSU
        have hfst := congrArg Prod.fst hsu
        simp only at hfst
        clear hsu
        rcases Nat.mod_two_eq_zero_or_one j with hj2 | hj2
        · rw [if_pos hj2] at hfst
          have hq64 : (half st j).1.length ≤ 64 := by
            obtain ⟨m, rfl⟩ : ∃ m, j = 2 * m := ⟨j / 2, by omega⟩
            rw [half_even, rd_len]; omega
          have hrem : ((j : Int)).tmod 2 = 0 := by rw [Int.tmod_eq_emod_of_nonneg (by omega)]; omega
          have hrem2 : (j : Int) % 2 = 0 := by omega
          generalize (half st j).1 = q at hown hfst hq64
          have HF := Lib.hid hfst
          clear hfst hj2
          go_wp2_with (first
            | (go_at_call 45; (with_reducible refine (hH _).mono ?_); rintro e1 w1 ⟨rfl, rfl⟩)
            | (at_builtin; refine wpList_append_own _ rfl _ _ 40 rfl w.heap.size 56 i0 (.agg #[.int .i64 0, .int .i64 0]) 2 16 Try.underlying40 hi hz0 hz1 hz2 rfl (by decide) _ _ _ rfl (hown.alloc _) ⟨wr.heap.size, 0, none⟩ 1 1 [.int .i64 x, .int .i64 0] rfl ?c1 ?c2 ?c3 ?c4 ?c5 ?c6 ?_))
          case c1 => rfl
          case c2 =>
            intro j u hu
            rw [Addr.add_mid, Nat.zero_add, cell_of_row _ _ j _ _ _ (heap_alloc_new wr _)]
            simpa using hu
          case c3 =>
            intro u hu
            simp only [List.mem_cons, List.not_mem_nil, or_false] at hu
            rcases hu with rfl | rfl <;> rfl
          case c4 => unfold maxLen; omega
          case c5 => omega
          case c6 => have := hb.size; simp; omega
          intro v' w1 hown' hgrow _
          go_wp2
          go_roundw
          case rel =>
            refine ⟨j + 1, _, by omega, by go_num, rfl, HB2.out, HZ2.out, hs2, ?_, ?_⟩
            · rw [HF.out, ec_snoc, List.length_append]; exact hown'
            · exact (hb.alloc hb.size _).grown hgrow (by have := hb.size; simp; omega) (fun k hk => (hown.lt k hk).1)
          case measure => simp [intOf]; omega
        · rw [if_neg (by omega)] at hfst
          obtain ⟨m, rfl⟩ : ∃ m, j = 2 * m + 1 := ⟨j / 2, by omega⟩
          have hod := half_odd (half_even st m)
          rw [hod] at hown hfst
          simp only at hown hfst
          have hlm := rd_len m st
          generalize (inNum M40 (rd m st).2).1 = a at hown hfst
          generalize (rd m st).1 = q at hown hfst hlm
          simp only [List.dropLast_concat, List.getLast?_concat, Option.getD_some] at hfst
          have hm64 : m ≤ 64 := by omega
          have hrem : ((2 * m + 1 : Nat) : Int).tmod 2 = 1 := by rw [Int.tmod_eq_emod_of_nonneg (by omega)]; omega
          have hrem2 : (2 * (m : Int) + 1).tmod 2 = 1 := by rw [Int.tmod_eq_emod_of_nonneg (by omega)]; omega
          have hrem3 : (2 * (m : Int) + 1) % 2 = 1 := by omega
          obtain ⟨n1, hn1⟩ : ∃ n1, (q ++ [((a : Int), (0 : Int))]).length = n1 := ⟨_, rfl⟩
          have hn1' : n1 = m + 1 := by rw [← hn1, List.length_append, hlm]; rfl
          rw [hn1] at hown
          obtain ⟨g, cap, rfl⟩ : ∃ g cap, u7 = .slice (some ⟨g, 0, none⟩) n1 cap := by
            rcases hown.2 with ⟨_, h0⟩ | ⟨g, cap, cur, e, _⟩
            · omega
            · exact ⟨g, cap, e⟩
          have hlo := hown.lt g rfl
          have hat := hown.cellAt (m * 2 + 1) (by omega)
          have hfz := hown.frozenAt (m * 2 + 1)
          obtain ⟨hst2, hgr⟩ := hown.stored (m * 2 + 1) (.int .i64 x)
          have hec := ec_set q a 0 x
          rw [hlm] at hec
          rw [hec] at hst2
          have hget : (ec (q ++ [((a : Int), (0 : Int))]))[m * 2 + 1]? = some (.int .i64 0) := by
            have := (ec_get (q ++ [((a : Int), (0 : Int))]) m (by omega)).2
            rw [this]
            have e : (q ++ [((a : Int), (0 : Int))])[m]'(by rw [hn1]; omega) = ((a : Int), (0 : Int)) := by
              rw [List.getElem_append_right (by omega)]; simp
            rw [e]
          rw [hget] at hat
          have hm1 : n1 - 1 = m := by omega
          have hbig : (n1 : Int) ≤ 100 := by omega
          have hn1p : (0 : Int) ≤ (n1 : Int) - 1 := by omega
          have hn1q : (n1 : Int) - 1 < (n1 : Int) := by omega
          rw [← hm1] at hat hfz
          have hb' := hb.grown hgr hb.size (fun k hk => by injection hk with hk; subst hk; exact hlo.1)
          have HF := Lib.hid hfst
          have HS := Lib.hid hst2
          have HB := Lib.hid hb'
          have HM := Lib.hid hm1
          have HN := Lib.hid hn1
          have HN' := Lib.hid hn1'
          clear hfst hst2 hb' hec hget hgr hm1 hn1 hn1' hown hlm hod hj2
          go_wp2_with (first
            | (go_at_call 45; (with_reducible refine (hH _).mono ?_); rintro e1 w1 ⟨rfl, rfl⟩))
          go_roundw
          case rel =>
            have hl2 : (q ++ [((a : Int), (x : Int))]).length = n1 := by have := HN.out; simpa using this
            refine ⟨2 * m + 1 + 1, _, by omega, by go_num, rfl, HB2.out, HZ2.out, hs2, ?_, ?_⟩
            · rw [HF.out, hl2, HM.out]; exact HS.out
            · rw [HM.out]; exact HB.out
          case measure => simp [intOf]; omega
      · have hH := head_of hts hh
        have hRe := HERR.out e he hin
        have he0 : ¬ (e : Int) = 0 := by omega
        have heb : ((e : Int) == 0) = false := by rw [beq_eq_false_iff_ne]; exact he0
        have HRE := Lib.hid hRe
        clear hRe he hh hin
        go_wp2_with (go_at_call 45; (with_reducible refine (hH _).mono ?_); rintro e1 w1 ⟨rfl, rfl⟩)
        go_ret2
        rw [HRE.out]
        exact ⟨none, 0, rfl, ents_nil _ _, hb⟩
      · have hH := head_of hts hh
        have hRe := HERR.out 4 (by omega) hin
        unfold M40 at hx
        have HRE := Lib.hid hRe
        clear hRe hh hin
        go_wp2_with (go_at_call 45; (with_reducible refine (hH _).mono ?_); rintro e1 w1 ⟨rfl, rfl⟩)
        go_ret2
        rw [HRE.out]
        exact ⟨none, 0, rfl, ents_nil _ _, hb⟩
    · obtain rfl : j = 2 * n := by omega
      rw [half_even] at hown htl hte
      have hR2 := hR'.out
      have hlen := rd_len n st
      have hNe := fun A c v hv => R_new A c (rd n st).1 v hv (by unfold maxLen; omega)
      generalize rd n st = r at hown htl hte hR2 hNe hlen
      obtain ⟨x, rest, e⟩ := r
      simp only at hown htl hte hR2 hNe hlen
      subst hte
      rw [if_neg (by omega)] at hR2
      have hlti : ¬ ((2 * n : Nat) : Int) < 2 * (n : Int) := by omega
      obtain ⟨A', c', rfl, hE⟩ := ents_of_own hown
      have hz := bl_len t
      rw [htl] at hz
      clear hown htl hH hR' hlen
      by_cases hr : rest = []
      · rw [if_neg (by simp [hr])] at hR2
        have ht0 : t.size = 0 := by rw [← hz, hr]; rfl
        have htb := toList_nil ht0
        have hts0 : (t.size : Int) = 0 := by omega
        clear hz hr ht0
        by_cases hne : newE x = 0
        · rw [if_neg (by omega)] at hR2
          have HR2 := Lib.hid hR2
          simp only [hne] at hNe
          clear hR2 hne
          go_wp2_with (go_at_call 46; (with_reducible refine (hNe _ _ _ hE).mono ?_); rintro e1 w1 ⟨rfl, f1⟩; have hE1 := hE.below f1; have b1 := hb.trans (f1.mono hb.size))
          go_ret2
          rw [HR2.out]
          exact ⟨A', c', rfl, hE1, b1⟩
        · rw [if_pos hne] at hR2
          have HR2 := Lib.hid hR2
          obtain ⟨y, hy⟩ : ∃ y, newE x = y := ⟨_, rfl⟩
          simp only [hy] at hNe
          rw [hy] at hne
          have HY := Lib.hid hy
          have hyb : ((y : Int) == 0) = false := by rw [beq_eq_false_iff_ne]; exact hne
          clear hR2 hy
          go_wp2_with (go_at_call 46; (with_reducible refine (hNe _ _ _ hE).mono ?_); rintro e1 w1 ⟨rfl, f1⟩; have b1 := hb.trans (f1.mono hb.size))
          go_ret2
          rw [HR2.out, HY.out]
          exact ⟨none, 0, rfl, ents_nil _ _, b1⟩
      · rw [if_pos hr] at hR2
        have ht0 : 0 < t.size := by rw [← hz]; exact List.length_pos_iff.2 hr
        have htb := toList_cons ht0
        have HR2 := Lib.hid hR2
        clear hz hr hR2 hNe
        go_wp2_with (fail)
        go_ret2
        rw [HR2.out]
        exact ⟨none, 0, rfl, ents_nil _ _, hb⟩
theorem R_parse (s : ByteArray) (hs : s.size ≤ 140737488351232) (w : World) :
    Calls Try.prog 30 #[.string s] w (PPost w (rparse (bl s))) := by
  rcases hdM 64 (bl s) with ⟨x, kk, hh, hx, hin, hkl, _, _⟩ | ⟨x, kk, e, hh, he, hin⟩ | ⟨x, kk, hh, hx, hin⟩
  · refine rparse_ok s hs x kk hh hx hkl _ ?_ w
    unfold rparse
    simp only [hin]
    rw [if_neg (by omega)]
  · have : rparse (bl s) = ([], (e : Int)) := by unfold rparse; simp only [hin]; rw [if_pos he]
    rw [this]
    exact rparse_e1 s hs x kk e hh he w
  · have : rparse (bl s) = ([], 4) := by unfold rparse; simp only [hin]; rw [if_pos (by omega)]; rfl
    rw [this]
    exact rparse_e2 s hs x kk hh hx w
end Go.Proofs.Ytgkiehefneamcaa.Cod
