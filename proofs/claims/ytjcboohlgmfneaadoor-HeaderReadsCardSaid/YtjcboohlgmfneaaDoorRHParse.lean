/- ref05.Parse: the walk (printed by gen/rhp.py). -/
import Derived.Test.YtjcboohlgmfneaaDoorRHP0
namespace Go.Proofs.YtjcboohlgmfneaaDoor.Cod
open Go.RowKit
theorem infoText : (Tryd.prog.info? 9).map (fun i => (i.zero, i.size, i.bytes)) = some (some (.string ⟨#[]⟩), 1, 16) := by kernel_rfl
attribute [local irreducible] inNum inRaw rdI hd Hdr.chk
set_option maxHeartbeats 4000000 in
set_option maxRecDepth 100000 in
theorem R_hparse (s : ByteArray) (hs : s.size ≤ 140737488351232) (w : World) :
    Calls Tryd.prog 8 #[.string s] w (RPost w (rhres (bl s))) := by
  have l0 : (bl s).length ≤ 140737488351232 := by rw [bl_len]; exact hs
  have l1 := Nat.le_trans (inNum_short MOST (bl s, 0)) l0
  have l2 := Nat.le_trans (inNum_short MOST (p1 (bl s)).2) l1
  have l2b := Nat.le_trans (inNum_short 8 (p2 (bl s)).2) l2
  have e3 : p3 (bl s) = inRaw (inNum (max 8 0) (p2 (bl s)).2).1 (inNum (max 8 0) (p2 (bl s)).2).2 := rfl
  rw [show max (8 : Int) 0 = 8 by decide] at e3
  have l3 : (p3 (bl s)).2.1.length ≤ 140737488351232 := by rw [e3]; exact Nat.le_trans (inRaw_short (inNum 8 (p2 (bl s)).2).1 (inNum 8 (p2 (bl s)).2).2) l2b
  have l4 := Nat.le_trans (inNum_short MOST (p3 (bl s)).2) l3
  have l5 := Nat.le_trans (inNum_short MOST (p4 (bl s)).2) l4
  have l6 := Nat.le_trans (inNum_short 5 (p5 (bl s)).2) l5
  have l7 := Nat.le_trans (rdI_short (p6 (bl s)).1 (p6 (bl s)).2) l6
  have h1 := tnum_st (bl s, 0) l0 MOST
  have h2 := tnum_st (p1 (bl s)).2 l1 MOST
  have h3 := tnum_st (p2 (bl s)).2 l2 8
  have h3b := traw_st (inNum 8 (p2 (bl s)).2).2 (inNum 8 (p2 (bl s)).2).1
  have h4 := tnum_st (p3 (bl s)).2 l3 MOST
  have h5 := tnum_st (p4 (bl s)).2 l4 MOST
  have h6 := tnum_st (p5 (bl s)).2 l5 5
  have h8 := tnum_st (p7 (bl s)).2 l7 MOST
  have b5 := inNum_big (m := MOST) (by decide) (p4 (bl s)).2
  have b6 := inNum_big (m := 5) (by decide) (p5 (bl s)).2
  have hR : rhres (bl s) = if (p8 (bl s)).2.2 ≠ 0 then (zeroH, ((p8 (bl s)).2.2 : Int)) else if (p8 (bl s)).2.1 ≠ [] then (zeroH, 3) else if (hdrR (bl s)).chk ≠ 0 then (zeroH, (hdrR (bl s)).chk) else (hdrR (bl s), 0) := rfl
  have hH : hdrR (bl s) = ⟨(p1 (bl s)).1, (p2 (bl s)).1, S (p3 (bl s)).1, (p4 (bl s)).1, (p5 (bl s)).1, (p7 (bl s)).1, (p8 (bl s)).1⟩ := rfl
  have h7 : p7 (bl s) = rdI (p6 (bl s)).1 (p6 (bl s)).2 := rfl
  rw [← e3] at h3b
  rw [show inNum MOST (bl s, 0) = p1 (bl s) from rfl] at h1
  rw [show inNum MOST (p1 (bl s)).2 = p2 (bl s) from rfl] at h2
  rw [show inNum MOST (p3 (bl s)).2 = p4 (bl s) from rfl] at h4
  rw [show inNum MOST (p4 (bl s)).2 = p5 (bl s) from rfl] at h5 b5
  rw [show inNum 5 (p5 (bl s)).2 = p6 (bl s) from rfl] at h6 b6
  rw [show inNum MOST (p7 (bl s)).2 = p8 (bl s) from rfl] at h8
  simp only [S_bl] at h1
  rw [show ((0 : Nat) : Int) = 0 from rfl] at h1
  generalize inNum 8 (p2 (bl s)).2 = q3b at h3 h3b e3
  generalize rhres (bl s) = R at hR ⊢
  generalize hdrR (bl s) = H at hR hH
  clear l0 l1 l2 l2b l3 l4 l5 l6 l7 e3
  generalize p1 (bl s) = q1 at *
  generalize p2 (bl s) = q2 at *
  generalize p3 (bl s) = q3 at *
  generalize p4 (bl s) = q4 at *
  generalize p5 (bl s) = q5 at *
  generalize p6 (bl s) = q6 at *
  generalize p7 (bl s) = q7 at *
  generalize p8 (bl s) = q8 at *
  obtain ⟨x1, s1, e1⟩ := q1
  obtain ⟨x2, s2, e2⟩ := q2
  obtain ⟨n3, s3b, e3b⟩ := q3b
  obtain ⟨x3, s3, e3⟩ := q3
  obtain ⟨x4, s4, e4⟩ := q4
  obtain ⟨x5, s5, e5⟩ := q5
  obtain ⟨n, s6, e6⟩ := q6
  obtain ⟨x8, s8, e8⟩ := q8
  simp only at h1 h2 h3 h3b h4 h5 h6 h8 b5 b6 hR hH h7
  unfold MOST at h1 h2 h4 h5 h8 b5
  have hx5 : IntKind.u64.wrap (x5 : Int) = (x5 : Int) := by rw [IntKind.wrap_u64]; omega
  have HR := Lib.hid hR
  have HH := Lib.hid hH
  have H7 := Lib.hid h7
  have H8 := Lib.hid h8
  clear hR hH h7 h8
  go_enter Tryd.func8, Tryd.ntmps8
  go_upto_region 4 with (fail)
  obtain ⟨wz, hwz⟩ : ∃ wz, wz = ((w.alloc (.cells #[.int .i64 0, .int .i64 0, .string ⟨#[]⟩, .int .i64 0, .int .u64 0, .slice none 0 0, .int .i64 0] 33)).alloc (.cells #[.int .i64 0, .int .i64 0, .string ⟨#[]⟩, .int .i64 0, .int .u64 0, .slice none 0 0, .int .i64 0] 33)).alloc (.cells #[.string s, .int .i64 0] 54) := ⟨_, rfl⟩
  have P0 : PT w (w.heap.size + 1) (w.heap.size + 1 + 1) #[.int .i64 0, .int .i64 0, .string ⟨#[]⟩, .int .i64 0, .int .u64 0, .slice none 0 0, .int .i64 0] (.string s) (.int .i64 0) wz := by
    rw [hwz]
    have a1 := heap_alloc_new w (.cells #[.int .i64 0, .int .i64 0, .string ⟨#[]⟩, .int .i64 0, .int .u64 0, .slice none 0 0, .int .i64 0] 33)
    have a2 := heap_alloc_new (w.alloc (.cells #[.int .i64 0, .int .i64 0, .string ⟨#[]⟩, .int .i64 0, .int .u64 0, .slice none 0 0, .int .i64 0] 33)) (.cells #[.int .i64 0, .int .i64 0, .string ⟨#[]⟩, .int .i64 0, .int .u64 0, .slice none 0 0, .int .i64 0] 33)
    have a3 := heap_alloc_new ((w.alloc (.cells #[.int .i64 0, .int .i64 0, .string ⟨#[]⟩, .int .i64 0, .int .u64 0, .slice none 0 0, .int .i64 0] 33)).alloc (.cells #[.int .i64 0, .int .i64 0, .string ⟨#[]⟩, .int .i64 0, .int .u64 0, .slice none 0 0, .int .i64 0] 33)) (.cells #[.string s, .int .i64 0] 54)
    rw [show (w.alloc (.cells #[.int .i64 0, .int .i64 0, .string ⟨#[]⟩, .int .i64 0, .int .u64 0, .slice none 0 0, .int .i64 0] 33)).heap.size = w.heap.size + 1 by simp] at a2
    rw [show ((w.alloc (.cells #[.int .i64 0, .int .i64 0, .string ⟨#[]⟩, .int .i64 0, .int .u64 0, .slice none 0 0, .int .i64 0] 33)).alloc (.cells #[.int .i64 0, .int .i64 0, .string ⟨#[]⟩, .int .i64 0, .int .u64 0, .slice none 0 0, .int .i64 0] 33)).heap.size = w.heap.size + 1 + 1 by simp] at a3
    have g1 := (Below.refl w.heap.size w).alloc (Nat.le_refl _) (.cells #[.int .i64 0, .int .i64 0, .string ⟨#[]⟩, .int .i64 0, .int .u64 0, .slice none 0 0, .int .i64 0] 33)
    have g2 := g1.alloc (by simp) (.cells #[.int .i64 0, .int .i64 0, .string ⟨#[]⟩, .int .i64 0, .int .u64 0, .slice none 0 0, .int .i64 0] 33)
    exact ⟨(heap_alloc_old _ _ (by simp)).trans a2, a3, (heap_alloc_old _ _ (by simp; omega)).trans ((heap_alloc_old _ _ (by simp)).trans a1), g2.alloc (by simp; omega) _, by omega, by omega⟩
  rw [← hwz]
  obtain ⟨Hb, eH⟩ : ∃ Hb, w.heap.size + 1 = Hb := ⟨_, rfl⟩
  obtain ⟨Tb, eT⟩ : ∃ Tb, Hb + 1 = Tb := ⟨_, rfl⟩
  rw [eH, eT] at P0
  rw [eH, eT]
  clear hwz eH eT
  obtain ⟨d1, d2⟩ := P0.2.2.2.2
  have u0 := P0.t0
  have u1 := P0.t1
  go_upto_region 5 with (go_at_call 23; ((with_reducible refine (h1 _).mono ?_); rintro e v1 ⟨rfl, f1⟩; have Q1 := P0.call f1; have y0 := Q1.t0; have y1 := Q1.t1; have y2 := Q1.tf 0; have y3 := Q1.tf 1; have y4 := Q1.hc 0; have y5 := Q1.hf 0))
  have P1 := ((Q1.set0 (.string (S s1))).set1 (.int .i64 e1)).setH 0 (.int .i64 x1)
  generalize (((v1.setCell ⟨Tb, 0, none⟩ (.string (S s1))).setCell ⟨Tb, 1, none⟩ (.int .i64 e1)).setCell ⟨Hb, 0, none⟩ (.int .i64 x1)) = v at P1 ⊢
  clear u0 u1 y0 y1 y2 y3 f1 Q1 y4 y5 P0
  have u0 := P1.t0
  have u1 := P1.t1
  go_upto_region 6 with (go_at_call 23; ((with_reducible refine (h2 _).mono ?_); rintro e v1 ⟨rfl, f1⟩; have Q1 := P1.call f1; have y0 := Q1.t0; have y1 := Q1.t1; have y2 := Q1.tf 0; have y3 := Q1.tf 1; have y4 := Q1.hc 1; have y5 := Q1.hf 1))
  have P2 := ((Q1.set0 (.string (S s2))).set1 (.int .i64 e2)).setH 1 (.int .i64 x2)
  generalize (((v1.setCell ⟨Tb, 0, none⟩ (.string (S s2))).setCell ⟨Tb, 1, none⟩ (.int .i64 e2)).setCell ⟨Hb, 1, none⟩ (.int .i64 x2)) = v at P2 ⊢
  clear u0 u1 y0 y1 y2 y3 f1 Q1 y4 y5 P1
  have u0 := P2.t0
  have u1 := P2.t1
  go_upto_region 7 with (go_at_call 23; ((with_reducible refine (h3 _).mono ?_); rintro e v1 ⟨rfl, f1⟩; have Q1 := P2.call f1; have y0 := Q1.t0; have y1 := Q1.t1; have y2 := Q1.tf 0; have y3 := Q1.tf 1))
  have P3 := (Q1.set0 (.string (S s3b))).set1 (.int .i64 e3b)
  generalize ((v1.setCell ⟨Tb, 0, none⟩ (.string (S s3b))).setCell ⟨Tb, 1, none⟩ (.int .i64 e3b)) = v at P3 ⊢
  clear u0 u1 y0 y1 y2 y3 f1 Q1 P2
  have u0 := P3.t0
  have u1 := P3.t1
  go_upto_region 8 with (go_at_call 24; ((with_reducible refine (h3b _).mono ?_); rintro e v1 ⟨rfl, f1⟩; have Q1 := P3.call f1; have y0 := Q1.t0; have y1 := Q1.t1; have y2 := Q1.tf 0; have y3 := Q1.tf 1; have y4 := Q1.hc 2; have y5 := Q1.hf 2))
  have P4 := ((Q1.set0 (.string (S s3))).set1 (.int .i64 e3)).setH 2 (.string (S x3))
  generalize (((v1.setCell ⟨Tb, 0, none⟩ (.string (S s3))).setCell ⟨Tb, 1, none⟩ (.int .i64 e3)).setCell ⟨Hb, 2, none⟩ (.string (S x3))) = v at P4 ⊢
  clear u0 u1 y0 y1 y2 y3 f1 Q1 y4 y5 P3
  have u0 := P4.t0
  have u1 := P4.t1
  go_upto_region 9 with (go_at_call 23; ((with_reducible refine (h4 _).mono ?_); rintro e v1 ⟨rfl, f1⟩; have Q1 := P4.call f1; have y0 := Q1.t0; have y1 := Q1.t1; have y2 := Q1.tf 0; have y3 := Q1.tf 1; have y4 := Q1.hc 3; have y5 := Q1.hf 3))
  have P5 := ((Q1.set0 (.string (S s4))).set1 (.int .i64 e4)).setH 3 (.int .i64 x4)
  generalize (((v1.setCell ⟨Tb, 0, none⟩ (.string (S s4))).setCell ⟨Tb, 1, none⟩ (.int .i64 e4)).setCell ⟨Hb, 3, none⟩ (.int .i64 x4)) = v at P5 ⊢
  clear u0 u1 y0 y1 y2 y3 f1 Q1 y4 y5 P4
  have u0 := P5.t0
  have u1 := P5.t1
  go_upto_region 11 with (go_at_call 23; ((with_reducible refine (h5 _).mono ?_); rintro e v1 ⟨rfl, f1⟩; have Q1 := P5.call f1; have y0 := Q1.t0; have y1 := Q1.t1; have y2 := Q1.tf 0; have y3 := Q1.tf 1; have y4 := Q1.hc 4; have y5 := Q1.hf 4))
  have P6 := ((Q1.set0 (.string (S s5))).set1 (.int .i64 e5)).setH 4 (.int .u64 x5)
  generalize (((v1.setCell ⟨Tb, 0, none⟩ (.string (S s5))).setCell ⟨Tb, 1, none⟩ (.int .i64 e5)).setCell ⟨Hb, 4, none⟩ (.int .u64 x5)) = v at P6 ⊢
  clear u0 u1 y0 y1 y2 y3 f1 Q1 y4 y5 P5
  have u0 := P6.t0
  have u1 := P6.t1
  go_upto_region 12 with (go_at_call 23; ((with_reducible refine (h6 _).mono ?_); rintro e v1 ⟨rfl, f1⟩; have Q1 := P6.call f1; have y0 := Q1.t0; have y1 := Q1.t1; have y2 := Q1.tf 0; have y3 := Q1.tf 1))
  have P7 := (Q1.set0 (.string (S s6))).set1 (.int .i64 e6)
  generalize ((v1.setCell ⟨Tb, 0, none⟩ (.string (S s6))).setCell ⟨Tb, 1, none⟩ (.int .i64 e6)) = v at P7 ⊢
  clear u0 u1 y0 y1 y2 y3 f1 Q1 P6
  have P8 : PT w Hb Tb #[.int .i64 x1, .int .i64 x2, .string (S x3), .int .i64 x4, .int .u64 x5, .slice none 0 0, .int .i64 0] (.string (S s6)) (.int .i64 e6) v := P7
  clear P7 h1 h2 h3 h3b h4 h5 h6
  go_wp2_with (fail)
  go_loopw [7] (fun i wr => ∃ (k : Nat) (u : Value), k ≤ n ∧ i = .int .i64 k ∧ PT w Hb Tb #[.int .i64 x1, .int .i64 x2, .string (S x3), .int .i64 x4, .int .u64 x5, u, .int .i64 0] (.string (S (rdI k (s6, e6)).2.1)) (.int .i64 (rdI k (s6, e6)).2.2) wr ∧ wr.ownsRow (Tb + 1) 9 1 u (rdI k (s6, e6)).1.length (tc (rdI k (s6, e6)).1)) (fun i _ => n - (intOf i).toNat)
  case atStart => exact ⟨0, .slice none 0 0, by omega, rfl, by rw [rdI_zero]; exact P8, by rw [rdI_zero]; exact World.ownsRow_nil _ _ _ _⟩
  case round =>
    obtain ⟨k, u, hk, rfl, P, hown⟩ := hrel
    clear P8
    by_cases hlt : k < n
    · obtain ⟨i0, hi, hz0, hz1, hz2⟩ := info_parts infoText
      have hlti : (k : Int) < (n : Int) := by omega
      have hsu := rdI_succ k (s6, e6)
      have hln := rdI_len k (s6, e6)
      have hraw := traw_st (rdI k (s6, e6)).2 32
      generalize rdI k (s6, e6) = r at P hown hsu hln hraw
      obtain ⟨D, t, et⟩ := r
      simp only at P hown hsu hln hraw
      generalize inRaw 32 (t, et) = y at hraw hsu
      obtain ⟨y, ty, ety⟩ := y
      simp only at hraw hsu
      rw [show ((32 : Nat) : Int) = 32 from rfl] at hraw
      have HS := Lib.hid hsu
      have HL := Lib.hid hln
      clear hsu hln
      have u0 := P.t0
      have u1 := P.t1
      have hlo := hown.lt
      have HLO := Lib.hid hlo
      clear hlo
      go_upto_region 17 with (go_at_call 24; ((with_reducible refine (hraw _).mono ?_); rintro e v1 ⟨rfl, f1⟩; have Q1 := P.call f1; have y0 := Q1.t0; have y1 := Q1.t1; have y2 := Q1.tf 0; have y3 := Q1.tf 1))
      have Q2 := (Q1.set0 (.string (S ty))).set1 (.int .i64 ety)
      have o1 : v1.ownsRow (Tb + 1) 9 1 u D.length (tc D) := by
        refine World.ownsRow.kept (row := none) hown ⟨f1.os, f1.tape, f1.output, f1.size, fun k hk _ => f1.block k hk⟩ ?_
        cases hv : u.ownBlock with
        | none => exact .inl rfl
        | some g => exact .inr (by simp)
      have oset : ∀ (v : World) (i : Nat) (x : Value), v.ownsRow (Tb + 1) 9 1 u D.length (tc D) → (v.setCell ⟨Tb, i, none⟩ x).ownsRow (Tb + 1) 9 1 u D.length (tc D) := fun v i x h => by
        refine World.ownsRow.kept (row := some Tb) h ⟨rfl, rfl, rfl, by simp, fun k _ hk => heap_setCell_other _ _ _ _ (fun e => hk (by simp [e]))⟩ ?_
        cases hv : u.ownBlock with
        | none => exact .inl rfl
        | some g => exact .inr (by intro e; injection e with e; have := (HLO.out g hv).1; omega)
      have o2 := oset _ 1 (.int .i64 ety) (oset _ 0 (.string (S ty)) o1)
      generalize (v1.setCell ⟨Tb, 0, none⟩ (.string (S ty))).setCell ⟨Tb, 1, none⟩ (.int .i64 ety) = v2 at Q2 o2 ⊢
      clear u0 u1 y0 y1 y2 y3 f1 Q1 P hown o1 oset hraw
      have c5 := Q2.hc 5
      have l2 := Q2.lt
      go_wp2_with (at_builtin; refine wpList_append_own _ rfl _ _ 31 rfl (Tb + 1) 9 i0 (.string ⟨#[]⟩) 1 16 Tryd.underlying31 hi hz0 hz1 hz2 rfl (by decide) _ _ _ rfl (o2.alloc _) ⟨v2.heap.size, 0, none⟩ 1 1 [.string (S y)] rfl ?c1 ?c2 ?c3 ?c4 ?c5 ?c6 ?_)
      case c1 => rfl
      case c2 =>
        intro j u hu
        rw [Addr.add_mid, Nat.zero_add, cell_of_row _ _ j _ _ _ (heap_alloc_new v2 _)]
        simpa using hu
      case c3 =>
        intro u hu
        simp only [List.mem_cons, List.not_mem_nil, or_false] at hu
        subst hu; rfl
      case c4 => have := HL.out; unfold maxLen; omega
      case c5 => have := HL.out; omega
      case c6 => simp; omega
      intro v' w8 o8 hgrow _
      obtain ⟨A8, n8, m8, rfl⟩ : ∃ A n c, v' = .slice A n c := by
        rcases o8.2 with ⟨h, _⟩ | ⟨g, cap, cur, h, _⟩
        · exact ⟨_, _, _, h⟩
        · exact ⟨_, _, _, h⟩
      have blk : ∀ i, i ≤ Tb → w8.heap[i]? = v2.heap[i]? := fun i hi => (hgrow.block i (by simp; omega) (fun e => by have := (HLO.out _ e.symm).1; omega)).trans (heap_alloc_old _ _ (by omega))
      have P8 : PT w Hb Tb #[.int .i64 x1, .int .i64 x2, .string (S x3), .int .i64 x4, .int .u64 x5, u, .int .i64 0] (.string (S ty)) (.int .i64 ety) w8 := by
        obtain ⟨a1, a2, a3, a4, a5, a6⟩ := Q2
        exact ⟨(blk _ (by omega)).trans a1, (blk _ (by omega)).trans a2, (blk _ (by omega)).trans a3, (a4.alloc a4.size _).grown hgrow (by have := a4.size; simp; omega) (fun k hk => by have := (HLO.out k hk).1; omega), a5, a6⟩
      have c8 := P8.hc 5
      have f8 := P8.hf 5
      have l8 := P8.lt
      have lo8 := o8.lt
      have LO8 := Lib.hid lo8
      clear blk hgrow Q2 c5 o2 lo8
      go_wp2
      go_roundw
      case rel =>
        refine ⟨k + 1, .slice A8 n8 m8, by omega, by go_num, ?_, ?_⟩
        · rw [HS.out]; exact P8.setH 5 _
        · rw [HS.out]
          simp only
          rw [show tc (D ++ [y]) = tc D ++ [.string (S y)] by simp [tc], List.length_append]
          refine World.ownsRow.kept (row := some Hb) o8 ⟨rfl, rfl, rfl, by simp, fun k _ hk => heap_setCell_other _ _ _ _ (fun e => hk (by simp [e]))⟩ ?_
          rcases hv : (Value.slice A8 n8 m8).ownBlock with _ | g
          · exact .inl rfl
          · exact .inr (by intro e; injection e with e; have := (LO8.out g hv).1; omega)
      case measure => simp [intOf]; omega
    · obtain rfl : k = n := by omega
      have hDl : q7.1.length ≤ 1000000 := by rw [H7.out, rdI_len]; omega
      rw [← H7.out] at P hown
      have hh8 := H8.out
      have hHH := HH.out
      have hRR := HR.out
      clear H7 H8 HH HR
      obtain ⟨D, st7⟩ := q7
      simp only at P hown hh8 hHH hDl
      obtain ⟨A, c, rfl, hTx⟩ := texts_of_own hown
      have u0 := P.t0
      have u1 := P.t1
      go_upto_region 19 with (go_at_call 23; ((with_reducible refine (hh8 _).mono ?_); rintro e v1 ⟨rfl, f1⟩; have Q1 := P.call f1; have y0 := Q1.t0; have y1 := Q1.t1; have y2 := Q1.tf 0; have y3 := Q1.tf 1; have y4 := Q1.hc 6; have y5 := Q1.hf 6))
      have Q2 : PT w Hb Tb #[.int .i64 x1, .int .i64 x2, .string (S x3), .int .i64 x4, .int .u64 x5, .slice A D.length c, .int .i64 x8] (.string (S s8)) (.int .i64 e8) _ := ((Q1.set0 (.string (S s8))).set1 (.int .i64 e8)).setH 6 (.int .i64 x8)
      have hlo := hown.lt
      have t2 : TextsAt (((v1.setCell ⟨Tb, 0, none⟩ (.string (S s8))).setCell ⟨Tb, 1, none⟩ (.int .i64 e8)).setCell ⟨Hb, 6, none⟩ (.int .i64 x8)) A c (D.map S) := by
        have kp : ∀ (va vb : World) (row : Option Nat), va.ownsRow (Tb + 1) 9 1 (.slice A D.length c) D.length (tc D) → va.grownBy vb row → (∀ g, row = some g → g ≤ Tb) → vb.ownsRow (Tb + 1) 9 1 (.slice A D.length c) D.length (tc D) := fun va vb row h hg hr => by
          refine World.ownsRow.kept (row := row) h hg ?_
          rcases hv : (Value.slice A D.length c).ownBlock with _ | g
          · exact .inl rfl
          · exact .inr (by intro e; have := (hlo g hv).1; have := hr g e.symm; omega)
        have sc : ∀ (v : World) (b i : Nat) (x : Value), v.grownBy (v.setCell ⟨b, i, none⟩ x) (some b) := fun v b i x => ⟨rfl, rfl, rfl, by simp, fun k _ hk => heap_setCell_other _ _ _ _ (fun e => hk (by simp [e]))⟩
        have o1 := kp _ v1 none hown ⟨f1.os, f1.tape, f1.output, f1.size, fun k hk _ => f1.block k hk⟩ (fun g e => by cases e)
        have o2 := kp _ _ _ o1 (sc v1 Tb 0 (.string (S s8))) (fun g e => by injection e with e; omega)
        have o3 := kp _ _ _ o2 (sc _ Tb 1 (.int .i64 e8)) (fun g e => by injection e with e; omega)
        have o4 := kp _ _ _ o3 (sc _ Hb 6 (.int .i64 x8)) (fun g e => by injection e with e; omega)
        obtain ⟨A', c', e, h⟩ := texts_of_own o4
        injection e with e1 _ e2
        subst e1 e2
        exact h
      generalize ((v1.setCell ⟨Tb, 0, none⟩ (.string (S s8))).setCell ⟨Tb, 1, none⟩ (.int .i64 e8)).setCell ⟨Hb, 6, none⟩ (.int .i64 x8) = v2 at Q2 t2 ⊢
      have z0 := Q2.t0
      have z1 := Q2.t1
      have q2 := Q2.1
      have r2 := Q2.2.2.1
      have g2 := Q2.2.2.2.1
      have l2 := Q2.lt
      have infoH : (Tryd.prog.info? 33).map (·.size) = some 7 := by kernel_rfl
      have V1 : (#[.int .i64 x1, .int .i64 x2, .string (S x3), .int .i64 x4, .int .u64 x5, .slice A D.length c, .int .i64 x8] : Array Value).all (·.oneCell') = true := by simp [Value.oneCell']
      have Z1 : (#[.int .i64 0, .int .i64 0, .string ⟨#[]⟩, .int .i64 0, .int .u64 0, .slice none 0 0, .int .i64 0] : Array Value).all (·.oneCell') = true := by simp [Value.oneCell']
      have hval : H.val A c = .agg #[.int .i64 x1, .int .i64 x2, .string (S x3), .int .i64 x4, .int .u64 x5, .slice A D.length c, .int .i64 x8] := by rw [hHH]; rfl
      have hpar : H.parents = D := by rw [hHH]
      have hchk := fun v (hv : TextsAt v A c (D.map S)) => R_hcheck x1 x2 (S x3) x4 x5 A c x8 (D.map S) v hv (by rw [List.length_map]; exact hDl)
      rw [show (D.map S).map bl = D by rw [List.map_map]; exact List.map_id'' (fun x => bl_S x) D, ← hHH, List.length_map] at hchk
      unfold rhv at hchk
      have HVAL := Lib.hid hval
      have HPAR := Lib.hid hpar
      have HT := Lib.hid t2
      have hA : ∀ g o, A = some ⟨g, o, none⟩ → Tb + 1 ≤ g := fun g o e => (hlo g (by rw [e]; rfl)).1
      have HA := Lib.hid hA
      clear hA
      clear u0 u1 y0 y1 y2 y3 y4 y5 Q1 f1 hTx hown P hHH hval hpar hh8 Q2 hlo
      have ENDZ : ∀ (R : Hdr × Int) (z : Int), R = (zeroH, z) → ∀ (e : Ending) (w' : World), e = .returned (.tuple #[.agg #[.int .i64 0, .int .i64 0, .string ⟨#[]⟩, .int .i64 0, .int .u64 0, .slice none 0 0, .int .i64 0], .int .i64 z]) → Below w.heap.size w w' → RPost w R e w' := fun R z hr e w' he hb => by
        subst hr
        exact ⟨none, 0, he, ⟨Nat.le_refl _, fun h => by simp [zeroH] at h⟩, hb⟩
      by_cases he : e8 = 0
      · subst he
        rw [if_neg (by omega)] at hRR
        by_cases hs8 : s8 = []
        · rw [if_neg (by simp [hs8])] at hRR
          have htb := toList_nil (s := S s8) (by rw [S_size, hs8]; rfl)
          obtain ⟨y, hy⟩ : ∃ y, H.chk = y := ⟨_, rfl⟩
          rw [hy] at hRR
          simp only [hy] at hchk
          have hck := fun (_ : Unit) => hchk v2 HT.out
          have hck := hck ()
          have HRR := Lib.hid hRR
          have hck' : ∀ v, v = v2 → Calls Tryd.prog 13 #[.agg #[.int .i64 x1, .int .i64 x2, .string (S x3), .int .i64 x4, .int .u64 x5, .slice A D.length c, .int .i64 x8]] v fun e w' => e = .returned (.int .i64 y) ∧ Below v.heap.size v w' := fun v hv => by subst hv; exact hck
          have hck := hck' v2 rfl
          clear hchk hck' hRR hy hs8
          by_cases hy0 : y = 0
          · subst hy0
            go_wp2_with (first
              | (refine wpList_load_row (by rfl) 33 (.tmp 4) (by rfl) Hb (by rfl) 33 #[.int .i64 x1, .int .i64 x2, .string (S x3), .int .i64 x4, .int .u64 x5, .slice A D.length c, .int .i64 x8] (0, 0) _ q2 Tryd.underlying33 rfl infoH ?_)
              | (go_at_call 13; ((with_reducible refine hck.mono ?_); rintro e w3 ⟨rfl, f3⟩; have q3 := (f3.block Hb (by omega)).trans q2; have r3 := (f3.block w.heap.size (by omega)).trans r2; have g3 := g2.trans (f3.mono g2.size); have t3 := HT.out.below f3))
              | (refine wpList_load_row (by rfl) 33 (.tmp 4) (by rfl) Hb (by rfl) 33 #[.int .i64 x1, .int .i64 x2, .string (S x3), .int .i64 x4, .int .u64 x5, .slice A D.length c, .int .i64 x8] (0, 0) _ q3 Tryd.underlying33 rfl infoH ?_)
              | (refine wpList_store_row (by rfl) 33 (.tmp 2) (.tmp 95) (by rfl) w.heap.size #[.int .i64 x1, .int .i64 x2, .string (S x3), .int .i64 x4, .int .u64 x5, .slice A D.length c, .int .i64 x8] #[.int .i64 0, .int .i64 0, .string ⟨#[]⟩, .int .i64 0, .int .u64 0, .slice none 0 0, .int .i64 0] 33 (by rfl) (by rfl) r3 infoH rfl V1 ?_))
            refine bodyPost_ret (result_2 rfl rfl rfl (run_loadVar_row _ w.heap.size 33 33 #[.int .i64 x1, .int .i64 x2, .string (S x3), .int .i64 x4, .int .u64 x5, .slice A D.length c, .int .i64 x8] (0, 0) _ (setRow_heap _ _ _ _ _ _ r3) Tryd.underlying33 rfl infoH)) rfl ?_
            rw [HRR.out, if_neg (by omega)]
            refine ⟨A, c, ?_, ?_, setRow_below g3 _ _ (Nat.le_refl _)⟩
            · rw [show (H, (0 : Int)).1.val A c = _ from HVAL.out]; rfl
            · rw [show (H, (0 : Int)).1.parents = D from HPAR.out]
              refine ⟨t3.1, fun h0 => ?_⟩
              obtain ⟨b, o, e, hb, hc⟩ := t3.2 h0
              have hg := HA.out b o e
              exact ⟨b, o, e, by simpa using hb, fun j x hx => (World.cell?_of_block (w := w3) (a := ⟨b, o + j, none⟩) (setRow_other _ _ _ _ (show b ≠ w.heap.size by omega))).trans (hc j x hx)⟩
          · have hyb : ((y : Int) == 0) = false := by rw [beq_eq_false_iff_ne]; exact hy0
            go_wp2_with (first
              | (refine wpList_load_row (by rfl) 33 (.tmp 4) (by rfl) Hb (by rfl) 33 #[.int .i64 x1, .int .i64 x2, .string (S x3), .int .i64 x4, .int .u64 x5, .slice A D.length c, .int .i64 x8] (0, 0) _ q2 Tryd.underlying33 rfl infoH ?_)
              | (go_at_call 13; ((with_reducible refine hck.mono ?_); rintro e w3 ⟨rfl, f3⟩; have q3 := (f3.block Hb (by omega)).trans q2; have r3 := (f3.block w.heap.size (by omega)).trans r2; have g3 := g2.trans (f3.mono g2.size); have t3 := HT.out.below f3))
              | (refine wpList_store_row (by rfl) 33 (.tmp 2) (.tmp 93) (by rfl) w.heap.size #[.int .i64 0, .int .i64 0, .string ⟨#[]⟩, .int .i64 0, .int .u64 0, .slice none 0 0, .int .i64 0] #[.int .i64 0, .int .i64 0, .string ⟨#[]⟩, .int .i64 0, .int .u64 0, .slice none 0 0, .int .i64 0] 33 (by rfl) (by rfl) r3 infoH rfl Z1 ?_))
            refine bodyPost_ret (result_2 rfl rfl rfl (run_loadVar_row _ w.heap.size 33 33 #[.int .i64 0, .int .i64 0, .string ⟨#[]⟩, .int .i64 0, .int .u64 0, .slice none 0 0, .int .i64 0] (0, 0) _ (setRow_heap _ _ _ _ _ _ r3) Tryd.underlying33 rfl infoH)) rfl ?_
            exact ENDZ R y (by rw [HRR.out, if_pos hy0]) _ _ rfl (setRow_below g3 _ _ (Nat.le_refl _))
        · rw [if_pos hs8] at hRR
          have htb := toList_cons (s := S s8) (by rw [S_size]; exact List.length_pos_iff.2 hs8)
          have HRR := Lib.hid hRR
          clear hchk hRR hs8
          go_wp2_with (refine wpList_store_row (by rfl) 33 (.tmp 2) (.tmp 93) (by rfl) w.heap.size #[.int .i64 0, .int .i64 0, .string ⟨#[]⟩, .int .i64 0, .int .u64 0, .slice none 0 0, .int .i64 0] #[.int .i64 0, .int .i64 0, .string ⟨#[]⟩, .int .i64 0, .int .u64 0, .slice none 0 0, .int .i64 0] 33 (by rfl) (by rfl) r2 infoH rfl Z1 ?_)
          refine bodyPost_ret (result_2 rfl rfl rfl (run_loadVar_row _ w.heap.size 33 33 #[.int .i64 0, .int .i64 0, .string ⟨#[]⟩, .int .i64 0, .int .u64 0, .slice none 0 0, .int .i64 0] (0, 0) _ (setRow_heap _ _ _ _ _ _ r2) Tryd.underlying33 rfl infoH)) rfl ?_
          exact ENDZ R 3 HRR.out _ _ rfl (setRow_below g2 _ _ (Nat.le_refl _))
      · rw [if_pos he] at hRR
        have he0 : ¬ (e8 : Int) = 0 := by omega
        have heb : ((e8 : Int) == 0) = false := by rw [beq_eq_false_iff_ne]; exact he0
        have HRR := Lib.hid hRR
        clear hchk hRR he
        go_wp2_with (refine wpList_store_row (by rfl) 33 (.tmp 2) (.tmp 93) (by rfl) w.heap.size #[.int .i64 0, .int .i64 0, .string ⟨#[]⟩, .int .i64 0, .int .u64 0, .slice none 0 0, .int .i64 0] #[.int .i64 0, .int .i64 0, .string ⟨#[]⟩, .int .i64 0, .int .u64 0, .slice none 0 0, .int .i64 0] 33 (by rfl) (by rfl) r2 infoH rfl Z1 ?_)
        refine bodyPost_ret (result_2 rfl rfl rfl (run_loadVar_row _ w.heap.size 33 33 #[.int .i64 0, .int .i64 0, .string ⟨#[]⟩, .int .i64 0, .int .u64 0, .slice none 0 0, .int .i64 0] (0, 0) _ (setRow_heap _ _ _ _ _ _ r2) Tryd.underlying33 rfl infoH)) rfl ?_
        exact ENDZ R e8 HRR.out _ _ rfl (setRow_below g2 _ _ (Nat.le_refl _))
end Go.Proofs.YtjcboohlgmfneaaDoor.Cod
