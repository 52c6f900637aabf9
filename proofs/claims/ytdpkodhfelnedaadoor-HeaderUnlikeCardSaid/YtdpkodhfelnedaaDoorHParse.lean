/- header.Parse: the walk. -/
import Derived.Test.YtdpkodhfelnedaaDoorHP
import Derived.Test.YtdpkodhfelnedaaDoorRTake
import Derived.Deep.RegionWith
namespace Go.Proofs.YtdpkodhfelnedaaDoor.Cod
open Go.RowKit
def HPost (w : World) (R : Hdr × Int) (e : Ending) (w' : World) : Prop := ∃ A c, e = .returned (.tuple #[R.1.val A c, .int .i64 R.2]) ∧ IdsAt w' A R.1.parents ∧ Below w.heap.size w w'
theorem run_copy_id0 (W : World) (ty : TypeId) (b : Nat) : (Builtin.copy_ #[46, 9] ty #[.slice (some ⟨b, 0, none⟩) 32 32, .string (S [])]).run Tryd.prog W = .ok (.int .i64 0) W := by
  obtain ⟨i, hq, _, _, _⟩ := info_parts infoByte
  have hs : S [] = ⟨#[]⟩ := rfl
  simp [Builtin.copy_, run_underlying Tryd.underlying46, Builtin.lenOf, Builtin.firstCells, sizeOf, typeInfo, hq, goInt, hs]
  rfl
set_option maxHeartbeats 4000000 in
set_option maxRecDepth 100000 in
theorem C_hparse (s : ByteArray) (hs : s.size ≤ 140737488351232) (w : World) :
    Calls Tryd.prog 13 #[.string s] w (HPost w (hres (bl s))) := by
  have h1 := fun b v (h : IsIn b (bl s, 0) v) => C_inum MOST h
  have h2 := fun b v (h : IsIn b (p1 (bl s)).2 v) => C_inum MOST h
  have h3 := fun b v (h : IsIn b (p2 (bl s)).2 v) => C_itext 8 h
  have h4 := fun b v (h : IsIn b (p3 (bl s)).2 v) => C_inum MOST h
  have h5 := fun b v (h : IsIn b (p4 (bl s)).2 v) => C_inum MOST h
  have h6 := fun b v (h : IsIn b (p5 (bl s)).2 v) => C_inum 5 h
  have h8 := fun b v (h : IsIn b (p7 (bl s)).2 v) => C_inum MOST h
  have b5 := inNum_big (m := MOST) (by decide) (p4 (bl s)).2
  have b6 := inNum_big (m := 5) (by decide) (p5 (bl s)).2
  have hR : hres (bl s) = if inEnd (p8 (bl s)).2 ≠ 0 then (zeroH, (inEnd (p8 (bl s)).2 : Int)) else if (hdrOf (bl s)).chk ≠ 0 then (zeroH, (hdrOf (bl s)).chk) else (hdrOf (bl s), 0) := rfl
  have hH : hdrOf (bl s) = ⟨(p1 (bl s)).1, (p2 (bl s)).1, S (p3 (bl s)).1, (p4 (bl s)).1, (p5 (bl s)).1, (p7 (bl s)).1.map pad32, (p8 (bl s)).1⟩ := rfl
  have h7 : p7 (bl s) = rdI (p6 (bl s)).1 (p6 (bl s)).2 := rfl
  rw [show inNum MOST (bl s, 0) = p1 (bl s) from rfl] at h1
  rw [show inNum MOST (p1 (bl s)).2 = p2 (bl s) from rfl] at h2
  rw [show inText 8 (p2 (bl s)).2 = p3 (bl s) from rfl] at h3
  rw [show inNum MOST (p3 (bl s)).2 = p4 (bl s) from rfl] at h4
  rw [show inNum MOST (p4 (bl s)).2 = p5 (bl s) from rfl] at h5 b5
  rw [show inNum 5 (p5 (bl s)).2 = p6 (bl s) from rfl] at h6 b6
  rw [show inNum MOST (p7 (bl s)).2 = p8 (bl s) from rfl] at h8
  have t3 : (p3 (bl s)).1.length ≤ 1000 := by
    have h1 := inRaw_ways (inNum (max 8 0) (p2 (bl s)).2).1 (inNum (max 8 0) (p2 (bl s)).2).2
    have h2 := inNum_big (m := max 8 0) (by decide) (p2 (bl s)).2
    have h3 : (p3 (bl s)).1 = (inRaw (inNum (max 8 0) (p2 (bl s)).2).1 (inNum (max 8 0) (p2 (bl s)).2).2).1 := rfl
    rw [h3]
    rcases h1 with h | h
    · rw [h]; simp
    · rw [h]; omega
  generalize hres (bl s) = R at hR ⊢
  generalize hdrOf (bl s) = H at hR hH
  generalize p1 (bl s) = q1 at *
  generalize p2 (bl s) = q2 at *
  generalize p3 (bl s) = q3 at *
  generalize p4 (bl s) = q4 at *
  generalize p5 (bl s) = q5 at *
  generalize p6 (bl s) = q6 at *
  generalize p7 (bl s) = q7 at *
  generalize p8 (bl s) = q8 at *
  obtain ⟨x1, s1⟩ := q1
  obtain ⟨x2, s2⟩ := q2
  obtain ⟨x3, s3⟩ := q3
  obtain ⟨x4, s4⟩ := q4
  obtain ⟨x5, s5⟩ := q5
  obtain ⟨n, s6⟩ := q6
  obtain ⟨x8, s8⟩ := q8
  simp only at h1 h2 h3 h4 h5 h6 h8 b5 b6 hR hH h7 t3
  unfold MOST at h1 h2 h4 h5 h8 b5
  have hx5 : IntKind.u64.wrap (x5 : Int) = (x5 : Int) := by rw [IntKind.wrap_u64]; omega
  have HR := Lib.hid hR
  have HH := Lib.hid hH
  have H7 := Lib.hid h7
  have H8 := Lib.hid h8
  clear hR hH h7 h8
  have hb0 : ∀ o1 : Obj, Below w.heap.size w (w.alloc o1) := fun o1 => (Below.refl _ _).alloc (Nat.le_refl _) _
  have eS : ∀ o : Obj, (w.alloc o).heap.size = w.heap.size + 1 := fun o => by simp
  have ES := Lib.hid eS
  clear eS
  go_enter Tryd.func13, Tryd.ntmps13
  go_wp2_with (first
    | (go_at_call 23; ((with_reducible refine (C_of s _ hs).mono ?_); rintro e w0 ⟨rfl, hI0, f0⟩; rw [ES.out] at hI0; have r0 := (f0.block w.heap.size (by simp)).trans (heap_alloc_new w _); have g0 := (hb0 _).trans (f0.mono (hb0 _).size); clear f0))
    | (go_at_call 24; ((with_reducible refine (h1 _ _ hI0).mono ?_); rintro e w1 ⟨rfl, hI1, f1⟩; clear hI0))
    | (go_at_call 24; ((with_reducible refine (h2 _ _ hI1).mono ?_); rintro e w2 ⟨rfl, hI2, f2⟩; clear hI1; replace f2 := f1.trans f2; clear f1))
    | (go_at_call 25; ((with_reducible refine (h3 _ _ hI2).mono ?_); rintro e w3 ⟨rfl, hI3, f3⟩; clear hI2; replace f3 := f2.trans f3; clear f2))
    | (go_at_call 24; ((with_reducible refine (h4 _ _ hI3).mono ?_); rintro e w4 ⟨rfl, hI4, f4⟩; clear hI3; replace f4 := f3.trans f4; clear f3))
    | (go_at_call 24; ((with_reducible refine (h5 _ _ hI4).mono ?_); rintro e w5 ⟨rfl, hI5, f5⟩; clear hI4; replace f5 := f4.trans f5; clear f4; have hIa := hI5.below ((Below.refl _ _).alloc (Nat.le_refl _) (.cells #[.int .i64 x1, .int .i64 x2, .string (S x3), .int .i64 x4, .int .u64 x5, .slice none 0 0, .int .i64 0] 31))))
    | (go_at_call 24; ((with_reducible refine (h6 _ _ hIa).mono ?_); rintro e w6 ⟨rfl, hI6, f6⟩)))
  have lt5 := hI5.lt
  obtain ⟨B, hB⟩ : ∃ B, w5.heap.size = B := ⟨_, rfl⟩
  have q6 := (f6.block w5.heap.size (by simp) (by intro e; injection e with e; omega)).trans (heap_alloc_new w5 _)
  have z5 := (f5.block w.heap.size (by exact (Array.getElem?_eq_some_iff.1 r0).1) (by intro e; injection e with e; omega)).trans r0
  have z6 := (f6.block w.heap.size (by simp; omega) (by intro e; injection e with e; omega)).trans ((((Below.refl _ _).alloc (Nat.le_refl _) _).block w.heap.size (by omega)).trans z5)
  have g5 := g0.trans (f5.below (B := w.heap.size) (by omega) g0.size)
  have g6 := (g5.alloc g5.size (.cells #[.int .i64 x1, .int .i64 x2, .string (S x3), .int .i64 x4, .int .u64 x5, .slice none 0 0, .int .i64 0] 31)).trans (f6.below (B := w.heap.size) (by omega) (by simp; omega))
  have lt6 := f6.size
  simp only [World.alloc, Array.size_push] at lt6
  rw [hB] at q6 lt5 lt6 ⊢
  clear hI5 hIa f5 f6 z5 g5 g0 r0 hB
  go_loopw [24] (fun i wr => ∃ (k : Nat) (v : Value), k ≤ n ∧ i = .int .i64 k ∧ IsIn (w.heap.size + 1) (rdI k s6).2 wr ∧ wr.heap[B]? = some (.cells #[.int .i64 x1, .int .i64 x2, .string (S x3), .int .i64 x4, .int .u64 x5, v, .int .i64 0] 31 (0, 0)) ∧ wr.ownsRow (B + 1) 36 32 v ((rdI k s6).1.map pad32).length (((rdI k s6).1.map pad32).flatMap Lib.byteCells) ∧ wr.heap[w.heap.size]? = some (.cells #[.int .i64 0, .int .i64 0, .string ⟨#[]⟩, .int .i64 0, .int .u64 0, .slice none 0 0, .int .i64 0] 31 (0, 0)) ∧ Below w.heap.size w wr) (fun i _ => n - (intOf i).toNat)
  case atStart => exact ⟨0, _, by omega, rfl, hI6, q6, World.ownsRow_nil _ _ _ _, z6, g6⟩
  case round =>
    obtain ⟨k, v, hk, rfl, hI, hq, hown, hz, hb⟩ := hrel
    clear q6 z6 g6 hI6
    have ltI := hI.lt
    by_cases hlt : k < n
    · have hlti : (k : Int) < (n : Int) := by omega
      obtain ⟨i0, hi, hz0, hz1, hz2⟩ := info_parts infoId
      have hsu := rdI_succ k s6
      have hln := rdI_len k s6
      generalize rdI k s6 = r at hI hown hsu hln
      obtain ⟨q, st⟩ := r
      simp only at hI hown hsu hln
      have hraw := fun v' (h : IsIn (w.heap.size + 1) st v') => C_iraw 32 (by omega) (by omega) h
      rw [show (32 : Int).toNat = 32 from rfl] at hraw
      have hway := inRaw_ways 32 st
      have hpl := pad_len st
      generalize inRaw 32 st = y at hraw hsu hway hpl
      obtain ⟨y, sy⟩ := y
      simp only at hraw hsu hway hpl
      have hD : (rdI (k + 1) s6).1.map pad32 = q.map pad32 ++ [pad32 y] := by rw [hsu]; simp
      have hS : (rdI (k + 1) s6).2 = sy := by rw [hsu]
      have hDl : (q.map pad32).length = k := by rw [List.length_map, hln]
      generalize q.map pad32 = D at hown hD hDl
      have HD := Lib.hid hD
      have HS := Lib.hid hS
      have HDl := Lib.hid hDl
      have hlo := hown.lt
      have HLO := Lib.hid hlo
      have hIz : IsIn (w.heap.size + 1) st (wr.alloc (.cells Z32 36)).drew := (hI.below ((Below.refl _ _).alloc (Nat.le_refl _) (.cells Z32 36))).at rfl
      clear hsu hln hD hS hDl hlo
      have ltB := (Array.getElem?_eq_some_iff.1 hq).1
      obtain ⟨X, eX⟩ : ∃ X, Lib.byteCells (pad32 y) = X := ⟨_, rfl⟩
      by_cases hy : y = []
      · subst hy
        have hp0 : pad32 [] = List.replicate 32 0 := rfl
        have hZX : Z32 = X.toArray := by rw [← eX]; rfl
        have hbX : (wr.alloc (.cells Z32 36)).heap[wr.heap.size]? = some (.cells X.toArray 36 (0, 0)) := by rw [heap_alloc_new, hZX]
        clear hZX hp0
        have hX1 : ∀ u ∈ X, u.oneCell' = true := by rw [← eX]; exact all_one _
        have hXl : X.length = 32 := by rw [← eX, Lib.byteCells_length]; exact hpl
        have hXs : X.toArray.size = 32 := by simpa using hXl
        have hiX : (Tryd.prog.info? 36).map (·.size) = some X.toArray.size := by rw [hXs]; kernel_rfl
        have HX := Lib.hid eX
        clear eX
        have szw := hb.size
        have hfold : List.foldl (fun cs (x : Value × Nat) => cs.setIfInBounds x.2 x.1) Z32 X.zipIdx = X.toArray := by
          have := fold_set X 0 Z32 (by rw [hXl]; rfl)
          simpa using this
        go_upto_region 6 with (fail)
        go_region_with ((go_at_call 26; (with_reducible refine (hraw _ hIz).mono ?_); rintro e w7 ⟨rfl, hI7, f7⟩; have hcp := run_copy_id0 w7 3 wr.heap.size; have k7 := (f7.block wr.heap.size (by simp) (by intro e; injection e with e; omega)).trans hbX))
        have hal := (Below.refl wr.heap.size wr).alloc (Nat.le_refl _) (.cells Z32 36)
        have q7 := (f7.block B (by simp; omega) (by intro e; injection e with e; omega)).trans ((hal.block B ltB).trans hq)
        have z7 := (f7.block w.heap.size (by simp; omega) (by intro e; injection e with e; omega)).trans ((hal.block w.heap.size (by omega)).trans hz)
        have f7' : (wr.alloc (.cells Z32 36)).grownBy w7 (some (w.heap.size + 1)) := ⟨f7.os, f7.tape, f7.output, f7.size, fun k hk hne => f7.block k hk hne⟩
        have o7 := (hown.alloc (.cells Z32 36)).kept f7' (by rcases hv : v.ownBlock with _ | g; exact .inl rfl; exact .inr (by intro e; injection e with e; have := (HLO.out g hv).1; omega))
        have g7 := (hb.alloc hb.size (.cells Z32 36)).drew.trans (f7.below (B := w.heap.size) (by omega) (by simp; omega))
        have s7 := f7.size
        simp only [World.drew, World.alloc, Array.size_push] at s7
        have c7 : w7.cell? ⟨B, 5, none⟩ = some v := by rw [cell_of_row _ _ _ _ _ _ q7]; rfl
        clear hown hq hz hb f7 f7' hal hI hIz hbX hcp hraw hway hpl
        go_wp2_with (first
          | (refine wpList_load_row (by rfl) 36 (.tmp 6) (by rfl) wr.heap.size (by rfl) 36 X.toArray (0, 0) _ k7 Tryd.underlying36 rfl hiX ?_)
          | (at_builtin; refine wpList_append_own _ rfl _ _ 29 rfl (B + 1) 36 i0 (.agg (Array.replicate 32 (.int .u8 0))) 32 32 Tryd.underlying29 hi hz0 hz1 hz2 rfl (by decide) _ _ _ rfl (o7.alloc _) ⟨w7.heap.size, 0, none⟩ 1 1 X rfl ?c1 ?c2 hX1 ?c3 ?c4 ?c5 ?_))
        case c1 => simpa using hXl
        case c2 =>
          intro j u hu
          rw [Addr.add_mid, Nat.zero_add, cell_of_row _ _ j X.toArray _ _ (heap_alloc_new _ _)]
          simpa using hu
        case c3 => have := HDl.out; unfold maxLen; omega
        case c4 => have := HDl.out; omega
        case c5 => simp; omega
        intro v' w8 o8 hgrow _
        have hal8 := (Below.refl w7.heap.size w7).alloc (Nat.le_refl _) (.cells X.toArray 36)
        have q8 := (hgrow.block B (by simp; omega) (fun e => by have := (HLO.out _ e.symm).1; omega)).trans ((hal8.block B (by omega)).trans q7)
        have z8 := (hgrow.block w.heap.size (by simp; omega) (fun e => by have := (HLO.out _ e.symm).1; omega)).trans ((hal8.block w.heap.size (by omega)).trans z7)
        have hI8 : IsIn (w.heap.size + 1) sy w8 := hI7.at ((hgrow.block (w.heap.size + 1) (by simp; omega) (fun e => by have := (HLO.out _ e.symm).1; omega)).trans (hal8.block (w.heap.size + 1) (by omega)))
        have g8 := (g7.alloc g7.size (.cells X.toArray 36)).grown hgrow (by simp; omega) (fun k hk => by have := (HLO.out k hk).1; omega)
        have c8 : w8.cell? ⟨B, 5, none⟩ = some v := by rw [cell_of_row _ _ _ _ _ _ q8]; rfl
        have f8 : w8.frozen? ⟨B, 5, none⟩ = false := frozen_of_row w8 B 5 _ _ q8
        obtain ⟨A8, n8, m8, rfl⟩ : ∃ A n c, v' = .slice A n c := by
          rcases o8.2 with ⟨h, _⟩ | ⟨g, cap, cur, h, _⟩
          · exact ⟨_, _, _, h⟩
          · exact ⟨_, _, _, h⟩
        have lo8 := o8.lt
        have LO8 := Lib.hid lo8
        clear hgrow hal8 q7 z7 hI7 g7 k7 c7 o7 lo8
        go_wp2
        go_roundw
        case rel =>
          refine ⟨k + 1, .slice A8 n8 m8, by omega, by go_num, ?_, ?_, ?_, ?_, ?_⟩
          · rw [HS.out]; exact hI8.at (heap_setCell_other _ _ _ _ (by simp; omega))
          · rw [heap_setCell_same _ _ _ _ _ _ q8]; rfl
          · rw [HD.out, List.flatMap_append, List.length_append, List.flatMap_cons, List.flatMap_nil, List.append_nil, HX.out]
            refine World.ownsRow.kept (row := some B) o8 ⟨rfl, rfl, rfl, by simp, fun k _ hk => heap_setCell_other _ _ _ _ (fun e => hk (by simp [e]))⟩ ?_
            rcases hv : (Value.slice A8 n8 m8).ownBlock with _ | g
            · exact .inl rfl
            · exact .inr (by intro e; injection e with e; have := (LO8.out g hv).1; omega)
          · rw [heap_setCell_other _ _ _ _ (by simp; omega)]; exact z8
          · exact g8.setCell (p := ⟨B, 5, none⟩) (by simp; omega) _
        case measure => simp [intOf]; omega
      · have hy32 : y.length = 32 := by rcases hway with h | h; exact absurd h hy; exact h
        have hpy : pad32 y = y := by unfold pad32; rw [if_neg hy]
        rw [hpy] at eX hpl
        have hX1 : ∀ u ∈ X, u.oneCell' = true := by rw [← eX]; exact all_one _
        have hXl : X.length = 32 := by rw [← eX, Lib.byteCells_length]; exact hpl
        have hXs : X.toArray.size = 32 := by simpa using hXl
        have hiX : (Tryd.prog.info? 36).map (·.size) = some X.toArray.size := by rw [hXs]; kernel_rfl
        have HX := Lib.hid eX
        clear eX
        have szw := hb.size
        have hfold : List.foldl (fun cs (x : Value × Nat) => cs.setIfInBounds x.2 x.1) Z32 X.zipIdx = X.toArray := by
          have := fold_set X 0 Z32 (by rw [hXl]; rfl)
          simpa using this
        have hty : 32 ≤ (S y).size := by rw [S_size]; omega
        have heq : Lib.byteCells ((bl (S y)).take 32) = X := by rw [bl_S, List.take_of_length_le (by omega)]; exact HX.out
        have HEQ := Lib.hid heq
        have HPY := Lib.hid hpy
        clear hy hpy heq
        go_upto_region 6 with (fail)
        go_region_with ((go_at_call 26; (with_reducible refine (hraw _ hIz).mono ?_); rintro e wa ⟨rfl, hIa, fa⟩; have ka := (fa.block wr.heap.size (by simp) (by intro e; injection e with e; omega)).trans (heap_alloc_new wr (.cells Z32 36)); have hcp := run_copy_id wa 3 wr.heap.size Z32 ka rfl (S y) hty; rw [HEQ.out] at hcp))
        obtain ⟨w7, hw7⟩ : ∃ w7, w7 = wa.setRow wr.heap.size X.toArray := ⟨_, rfl⟩
        rw [← hw7]
        have hal := (Below.refl wr.heap.size wr).alloc (Nat.le_refl _) (.cells Z32 36)
        have k7 : w7.heap[wr.heap.size]? = some (.cells X.toArray 36 (0, 0)) := by rw [hw7]; exact setRow_heap _ _ _ _ _ _ ka
        have ho : ∀ i, i ≠ wr.heap.size → w7.heap[i]? = wa.heap[i]? := fun i hi => by rw [hw7]; exact setRow_other _ _ _ _ (fun e => hi e)
        have q7 := (ho B (by omega)).trans ((fa.block B (by simp; omega) (by intro e; injection e with e; omega)).trans ((hal.block B ltB).trans hq))
        have z7 := (ho w.heap.size (by omega)).trans ((fa.block w.heap.size (by simp; omega) (by intro e; injection e with e; omega)).trans ((hal.block w.heap.size (by omega)).trans hz))
        have hI7 : IsIn (w.heap.size + 1) sy w7 := hIa.at (ho _ (by omega))
        have fa' : (wr.alloc (.cells Z32 36)).grownBy wa (some (w.heap.size + 1)) := ⟨fa.os, fa.tape, fa.output, fa.size, fun k hk hne => fa.block k hk hne⟩
        have oa := (hown.alloc (.cells Z32 36)).kept fa' (by rcases hv : v.ownBlock with _ | g; exact .inl rfl; exact .inr (by intro e; injection e with e; have := (HLO.out g hv).1; omega))
        have o7 : w7.ownsRow (B + 1) 36 32 v D.length (D.flatMap Lib.byteCells) := by
          refine World.ownsRow.kept (row := some wr.heap.size) oa (by rw [hw7]; exact ⟨rfl, rfl, rfl, by simp, fun k _ hk => setRow_other _ _ _ _ (fun e => hk (by rw [e]))⟩) ?_
          rcases hv : v.ownBlock with _ | g
          · exact .inl rfl
          · exact .inr (by intro e; injection e with e; have := (HLO.out g hv).2; omega)
        have ga := (hb.alloc hb.size (.cells Z32 36)).drew.trans (fa.below (B := w.heap.size) (by omega) (by simp; omega))
        have g7 : Below w.heap.size w w7 := by rw [hw7]; exact setRow_below ga _ _ szw
        have s7 : wr.heap.size + 1 ≤ w7.heap.size := by
          have s7 := fa.size
          simp only [World.drew, World.alloc, Array.size_push] at s7
          rw [hw7]
          simpa using s7
        clear ho ga oa fa' ka hw7 hIa
        have c7 : w7.cell? ⟨B, 5, none⟩ = some v := by rw [cell_of_row _ _ _ _ _ _ q7]; rfl
        clear hown hq hz hb fa hal hI hIz hcp hraw hway hpl
        go_wp2_with (first
          | (refine wpList_load_row (by rfl) 36 (.tmp 6) (by rfl) wr.heap.size (by rfl) 36 X.toArray (0, 0) _ k7 Tryd.underlying36 rfl hiX ?_)
          | (at_builtin; refine wpList_append_own _ rfl _ _ 29 rfl (B + 1) 36 i0 (.agg (Array.replicate 32 (.int .u8 0))) 32 32 Tryd.underlying29 hi hz0 hz1 hz2 rfl (by decide) _ _ _ rfl (o7.alloc _) ⟨w7.heap.size, 0, none⟩ 1 1 X rfl ?c1 ?c2 hX1 ?c3 ?c4 ?c5 ?_))
        case c1 => simpa using hXl
        case c2 =>
          intro j u hu
          rw [Addr.add_mid, Nat.zero_add, cell_of_row _ _ j X.toArray _ _ (heap_alloc_new _ _)]
          simpa using hu
        case c3 => have := HDl.out; unfold maxLen; omega
        case c4 => have := HDl.out; omega
        case c5 => simp; omega
        intro v' w8 o8 hgrow _
        have hal8 := (Below.refl w7.heap.size w7).alloc (Nat.le_refl _) (.cells X.toArray 36)
        have q8 := (hgrow.block B (by simp; omega) (fun e => by have := (HLO.out _ e.symm).1; omega)).trans ((hal8.block B (by omega)).trans q7)
        have z8 := (hgrow.block w.heap.size (by simp; omega) (fun e => by have := (HLO.out _ e.symm).1; omega)).trans ((hal8.block w.heap.size (by omega)).trans z7)
        have hI8 : IsIn (w.heap.size + 1) sy w8 := hI7.at ((hgrow.block (w.heap.size + 1) (by simp; omega) (fun e => by have := (HLO.out _ e.symm).1; omega)).trans (hal8.block (w.heap.size + 1) (by omega)))
        have g8 := (g7.alloc g7.size (.cells X.toArray 36)).grown hgrow (by simp; omega) (fun k hk => by have := (HLO.out k hk).1; omega)
        have c8 : w8.cell? ⟨B, 5, none⟩ = some v := by rw [cell_of_row _ _ _ _ _ _ q8]; rfl
        have f8 : w8.frozen? ⟨B, 5, none⟩ = false := frozen_of_row w8 B 5 _ _ q8
        obtain ⟨A8, n8, m8, rfl⟩ : ∃ A n c, v' = .slice A n c := by
          rcases o8.2 with ⟨h, _⟩ | ⟨g, cap, cur, h, _⟩
          · exact ⟨_, _, _, h⟩
          · exact ⟨_, _, _, h⟩
        have lo8 := o8.lt
        have LO8 := Lib.hid lo8
        clear hgrow hal8 q7 z7 hI7 g7 k7 c7 o7 lo8
        go_wp2
        go_roundw
        case rel =>
          refine ⟨k + 1, .slice A8 n8 m8, by omega, by go_num, ?_, ?_, ?_, ?_, ?_⟩
          · rw [HS.out]; exact hI8.at (heap_setCell_other _ _ _ _ (by simp; omega))
          · rw [heap_setCell_same _ _ _ _ _ _ q8]; rfl
          · rw [HD.out, HPY.out, List.flatMap_append, List.length_append, List.flatMap_cons, List.flatMap_nil, List.append_nil, HX.out]
            refine World.ownsRow.kept (row := some B) o8 ⟨rfl, rfl, rfl, by simp, fun k _ hk => heap_setCell_other _ _ _ _ (fun e => hk (by simp [e]))⟩ ?_
            rcases hv : (Value.slice A8 n8 m8).ownBlock with _ | g
            · exact .inl rfl
            · exact .inr (by intro e; injection e with e; have := (LO8.out g hv).1; omega)
          · rw [heap_setCell_other _ _ _ _ (by simp; omega)]; exact z8
          · exact g8.setCell (p := ⟨B, 5, none⟩) (by simp; omega) _
        case measure => simp [intOf]; omega
    · obtain rfl : k = n := by omega
      have hpad := rdI_pad k s6
      have hln := rdI_len k s6
      rw [← H7.out] at hI hown hpad hln
      have hDl : (q7.1.map pad32).length = k := by rw [List.length_map, hln]
      have hh8 := fun v' h => H8.out (w.heap.size + 1) v' h
      have hHH := HH.out
      have hRR := HR.out
      clear h1 h2 h3 h4 h5 h6 H7 HH HR H8 hln
      generalize q7.1.map pad32 = D at hown hpad hHH hDl
      generalize q7.2 = st at hI hh8
      obtain ⟨A, n8, c, rfl⟩ : ∃ A n c, v = .slice A n c := by
        rcases hown.2 with ⟨h, _⟩ | ⟨g, cap, cur, h, _⟩
        · exact ⟨_, _, _, h⟩
        · exact ⟨_, _, _, h⟩
      have ltB := (Array.getElem?_eq_some_iff.1 hq).1
      have hlo := hown.lt
      have hchk := fun v' (h : IdsAt v' A H.parents) => C_hcheck H A c v' h (by rw [hHH]; show D.length ≤ _; omega) (by rw [hHH]; show x5 < _; omega) (by rw [hHH]; show (S x3).size ≤ _; rw [S_size]; omega)
      have hval : H.val A c = .agg #[.int .i64 x1, .int .i64 x2, .string (S x3), .int .i64 x4, .int .u64 x5, .slice A D.length c, .int .i64 x8] := by rw [hHH]; rfl
      have hpar : H.parents = D := by rw [hHH]
      rw [hval] at hchk
      have hn8 : n8 = D.length := by
        obtain ⟨A', c', e, _⟩ := ids_of_own hown hpad
        injection e
      subst hn8
      obtain ⟨z, hz8⟩ : ∃ z, inEnd s8 = z := ⟨_, rfl⟩
      rw [hz8] at hRR
      have hend := fun v' (h : IsIn (w.heap.size + 1) s8 v') => C_end h
      simp only [hz8] at hend
      have infoH : (Tryd.prog.info? 31).map (·.size) = some 7 := by kernel_rfl
      have HLO := Lib.hid hlo
      have HPAR := Lib.hid hpar
      have HVAL := Lib.hid hval
      have HPAD := Lib.hid hpad
      have HOWN := Lib.hid hown
      clear hHH hz8 hlo hpar hval hDl hpad hown
      go_upto_region 10 with (go_at_call 24; ((with_reducible refine (hh8 _ hI).mono ?_); rintro e w9 ⟨rfl, hI9, f9⟩; have q9 := (f9.block B (by omega) (by intro e; injection e with e; omega)).trans hq; have z9 := (f9.block w.heap.size (by omega) (by intro e; injection e with e; omega)).trans hz; have g9 := hb.trans (f9.below (B := w.heap.size) (by omega) hb.size); have c9 : w9.cell? ⟨B, 6, none⟩ = some (.int .i64 0) := (by rw [cell_of_row _ _ _ _ _ _ q9]; rfl); have fz9 := frozen_of_row w9 B 6 _ _ q9))
      obtain ⟨w10, hw10⟩ : ∃ w10, w10 = w9.setCell ⟨B, 6, none⟩ (.int .i64 x8) := ⟨_, rfl⟩
      rw [← hw10]
      have q10 : w10.heap[B]? = some (.cells #[.int .i64 x1, .int .i64 x2, .string (S x3), .int .i64 x4, .int .u64 x5, .slice A D.length c, .int .i64 x8] 31 (0, 0)) := by rw [hw10, heap_setCell_same _ _ _ _ _ _ q9]; rfl
      have z10 : w10.heap[w.heap.size]? = some (.cells #[.int .i64 0, .int .i64 0, .string ⟨#[]⟩, .int .i64 0, .int .u64 0, .slice none 0 0, .int .i64 0] 31 (0, 0)) := by rw [hw10, heap_setCell_other _ _ _ _ (by simp; omega)]; exact z9
      have hI10 : IsIn (w.heap.size + 1) s8 w10 := by rw [hw10]; exact hI9.at (heap_setCell_other _ _ _ _ (by simp; omega))
      have g10 : Below w.heap.size w w10 := by rw [hw10]; exact g9.setCell (p := ⟨B, 6, none⟩) (by simp; omega) _
      have own9 := HOWN.out.kept (w' := w9) (row := some (w.heap.size + 1)) f9 (by rcases hv : (Value.slice A D.length c).ownBlock with _ | g; exact .inl rfl; exact .inr (by intro e; injection e with e; have := (HLO.out g hv).1; omega))
      have own10 : w10.ownsRow (B + 1) 36 32 (.slice A D.length c) D.length (D.flatMap Lib.byteCells) := by
        rw [hw10]
        refine World.ownsRow.kept (row := some B) own9 ⟨rfl, rfl, rfl, by simp, fun k _ hk => heap_setCell_other _ _ _ _ (fun e => hk (by simp [e]))⟩ ?_
        rcases hv : (Value.slice A D.length c).ownBlock with _ | g
        · exact .inl rfl
        · exact .inr (by intro e; injection e with e; have := (HLO.out g hv).1; omega)
      have hIds : IdsAt w10 A D := by
        obtain ⟨A', c', e, h⟩ := ids_of_own own10 HPAD.out
        injection e with e1 _ _
        subst e1
        exact h
      have hIdsH : IdsAt w10 A H.parents := by rw [HPAR.out]; exact hIds
      have hA : ∀ g o, A = some ⟨g, o, none⟩ → B + 1 ≤ g := fun g o e => (HLO.out g (by rw [e]; rfl)).1
      have HA := Lib.hid hA
      clear hA
      have hchk10 := hchk w10 hIdsH
      have hend10 := hend w10 hI10
      have lt10 := (Array.getElem?_eq_some_iff.1 q10).1
      clear hw10 q9 z9 hI9 g9 own9 own10 hIds HOWN c9 fz9 f9 hq hz hb hI HLO hchk hend hh8
      have HCK := Lib.hid hchk10
      clear hchk10
      have V1 : (#[.int .i64 x1, .int .i64 x2, .string (S x3), .int .i64 x4, .int .u64 x5, .slice A D.length c, .int .i64 x8] : Array Value).all (·.oneCell') = true := by simp [Value.oneCell']
      have Z1 : (#[.int .i64 0, .int .i64 0, .string ⟨#[]⟩, .int .i64 0, .int .u64 0, .slice none 0 0, .int .i64 0] : Array Value).all (·.oneCell') = true := by simp [Value.oneCell']
      have Zs : (Tryd.prog.info? 31).map (·.size) = some (#[.int .i64 0, .int .i64 0, .string ⟨#[]⟩, .int .i64 0, .int .u64 0, .slice none 0 0, .int .i64 0] : Array Value).size := infoH
      by_cases hz0 : z = 0
      · subst hz0
        rw [if_neg (by omega)] at hRR
        obtain ⟨y, hy⟩ : ∃ y, H.chk = y := ⟨_, rfl⟩
        rw [hy] at HCK
        rw [hy] at hRR
        have HRR := Lib.hid hRR
        clear hRR hy
        by_cases hy0 : y = 0
        · subst hy0
          go_wp2_with (first
            | (go_at_call 27; ((with_reducible refine hend10.mono ?_); rintro e w11 ⟨rfl, rfl⟩))
            | (refine wpList_load_row (by rfl) 31 (.tmp 5) (by rfl) B (by rfl) 31 #[.int .i64 x1, .int .i64 x2, .string (S x3), .int .i64 x4, .int .u64 x5, .slice A D.length c, .int .i64 x8] (0, 0) _ q10 Tryd.underlying31 rfl infoH ?_)
            | (go_at_call 14; ((with_reducible refine HCK.out.mono ?_); rintro e w12 ⟨rfl, f12⟩; have q12 := (f12.block B lt10).trans q10; have z12 := (f12.block w.heap.size (by omega)).trans z10; have g12 := g10.trans (f12.mono g10.size); have i12 := hIdsH.below f12; clear q10 z10))
            | (refine wpList_load_row (by rfl) 31 (.tmp 5) (by rfl) B (by rfl) 31 #[.int .i64 x1, .int .i64 x2, .string (S x3), .int .i64 x4, .int .u64 x5, .slice A D.length c, .int .i64 x8] (0, 0) _ q12 Tryd.underlying31 rfl infoH ?_)
            | (refine wpList_store_row (by rfl) 31 (.tmp 2) (.tmp 50) (by rfl) w.heap.size #[.int .i64 x1, .int .i64 x2, .string (S x3), .int .i64 x4, .int .u64 x5, .slice A D.length c, .int .i64 x8] #[.int .i64 0, .int .i64 0, .string ⟨#[]⟩, .int .i64 0, .int .u64 0, .slice none 0 0, .int .i64 0] 31 (by rfl) (by rfl) z12 infoH rfl V1 ?_))
          refine bodyPost_ret (result_2 rfl rfl rfl (run_loadVar_row _ w.heap.size 31 31 #[.int .i64 x1, .int .i64 x2, .string (S x3), .int .i64 x4, .int .u64 x5, .slice A D.length c, .int .i64 x8] (0, 0) _ (setRow_heap _ _ _ _ _ _ z12) Tryd.underlying31 rfl infoH)) rfl ?_
          rw [HRR.out, if_neg (by omega)]
          refine ⟨A, c, ?_, ?_, setRow_below g12 _ _ (Nat.le_refl _)⟩
          · rw [show (H, (0 : Int)).1.val A c = _ from HVAL.out]; rfl
          · exact fun i h => by
              obtain ⟨h1, g, o, h2, h3, h4⟩ := i12 i h
              have hg := HA.out g o h2
              refine ⟨h1, g, o, h2, by simpa using h3, fun j u hu => ?_⟩
              exact (World.cell?_of_block (w := w12) (a := ⟨g, o + i * 32 + j, none⟩) (setRow_other _ _ _ _ (show g ≠ w.heap.size by omega))).trans (h4 j u hu)
        · have hyb : ((y : Int) == 0) = false := by rw [beq_eq_false_iff_ne]; exact hy0
          go_wp2_with (first
            | (go_at_call 27; ((with_reducible refine hend10.mono ?_); rintro e w11 ⟨rfl, rfl⟩))
            | (refine wpList_load_row (by rfl) 31 (.tmp 5) (by rfl) B (by rfl) 31 #[.int .i64 x1, .int .i64 x2, .string (S x3), .int .i64 x4, .int .u64 x5, .slice A D.length c, .int .i64 x8] (0, 0) _ q10 Tryd.underlying31 rfl infoH ?_)
            | (go_at_call 14; ((with_reducible refine HCK.out.mono ?_); rintro e w12 ⟨rfl, f12⟩; have z12 := (f12.block w.heap.size (by omega)).trans z10; have g12 := g10.trans (f12.mono g10.size); clear z10))
            | (refine wpList_store_row (by rfl) 31 (.tmp 2) (.tmp 48) (by rfl) w.heap.size #[.int .i64 0, .int .i64 0, .string ⟨#[]⟩, .int .i64 0, .int .u64 0, .slice none 0 0, .int .i64 0] #[.int .i64 0, .int .i64 0, .string ⟨#[]⟩, .int .i64 0, .int .u64 0, .slice none 0 0, .int .i64 0] 31 (by rfl) (by rfl) z12 infoH rfl Z1 ?_))
          refine bodyPost_ret (result_2 rfl rfl rfl (run_loadVar_row _ w.heap.size 31 31 #[.int .i64 0, .int .i64 0, .string ⟨#[]⟩, .int .i64 0, .int .u64 0, .slice none 0 0, .int .i64 0] (0, 0) _ (setRow_heap _ _ _ _ _ _ z12) Tryd.underlying31 rfl infoH)) rfl ?_
          rw [HRR.out, if_pos hy0]
          exact ⟨none, 0, rfl, fun i h => absurd h (by simp [zeroH]), setRow_below g12 _ _ (Nat.le_refl _)⟩
      · rw [if_pos hz0] at hRR
        have hzb : ((z : Int) == 0) = false := by rw [beq_eq_false_iff_ne]; omega
        have hzi : ¬ (z : Int) = 0 := by omega
        have HRR := Lib.hid hRR
        clear hRR HCK
        go_wp2_with (first
          | (go_at_call 27; ((with_reducible refine hend10.mono ?_); rintro e w11 ⟨rfl, rfl⟩))
          | (refine wpList_store_row (by rfl) 31 (.tmp 2) (.tmp 48) (by rfl) w.heap.size #[.int .i64 0, .int .i64 0, .string ⟨#[]⟩, .int .i64 0, .int .u64 0, .slice none 0 0, .int .i64 0] #[.int .i64 0, .int .i64 0, .string ⟨#[]⟩, .int .i64 0, .int .u64 0, .slice none 0 0, .int .i64 0] 31 (by rfl) (by rfl) z10 infoH rfl Z1 ?_))
        refine bodyPost_ret (result_2 rfl rfl rfl (run_loadVar_row _ w.heap.size 31 31 #[.int .i64 0, .int .i64 0, .string ⟨#[]⟩, .int .i64 0, .int .u64 0, .slice none 0 0, .int .i64 0] (0, 0) _ (setRow_heap _ _ _ _ _ _ z10) Tryd.underlying31 rfl infoH)) rfl ?_
        rw [HRR.out]
        exact ⟨none, 0, rfl, fun i h => absurd h (by simp [zeroH]), setRow_below g10 _ _ (Nat.le_refl _)⟩
end Go.Proofs.YtdpkodhfelnedaaDoor.Cod
