/- DiskRoom: the walk. -/
import Derived.Test.YtakefjdckacgpaaDkAct
import Derived.Test.YtakefjdckacgpaaFix4
import Derived.Deep.CutRange
import Derived.Laws.MakeOwn
import Derived.Great.BuildSlice
import Derived.Laws.BytesArg
namespace Go.Proofs.Ytakefjdckacgpaa.Cod
open Go.RowKit
theorem callsSome {P : Program} {f : FuncId} {args : Array Value} {w : World} {R : Ending → World → Prop} (h : Calls P f args w R) : ∃ e w', R e w' := by
  obtain ⟨e, w', _, h, _⟩ := h []
  exact ⟨e, w', h⟩
theorem infoU8 : (Try.prog.info? 5).map (fun i => (i.zero, i.size, i.bytes)) = some (some (.int .u8 0), 1, 1) := by kernel_rfl
theorem slice_byte (w : World) (x : Int) : (Instr.buildSlice 28 1 #[(0, .int .u8 x)]).run Try.prog w = .ok (.slice (some ⟨w.heap.size, 0, none⟩) 1 1) (w.alloc (.cells #[.int .u8 x] 5)) := by
  obtain ⟨i0, hi, hz0, hz1, hz2⟩ := info_parts infoU8
  refine Go.run_buildSlice w 28 5 1 #[(0, .int .u8 x)] #[.int .u8 x] i0 (.int .u8 0) Try.underlying28 hi hz0 (by rw [hz1]; decide) (by rw [hz1]; decide) ?_
  rw [hz1]
  first
    | kernel_rfl
    | (simp [Instr.fill]; done)
    | (simp [Instr.fill, Value.cells, Array.range]; done)
theorem make_bytes (w : World) (n : Nat) (hn : n ≤ 1000) : (Instr.makeSlice 28 (.int .i64 (n : Int)) (.int .i64 (n : Int))).run Try.prog w = .ok (.slice (some ⟨w.heap.size, 0, none⟩) n n) (w.alloc (.cells (madeCells #[.int .u8 0] n) 5)) := by
  obtain ⟨i0, hi, hz0, hz1, hz2⟩ := info_parts infoU8
  have := run_makeSlice (P := Try.prog) w 28 5 i0 (.int .u8 0) Try.underlying28 hi hz0 .i64 .i64 (n : Int) (n : Int) (by omega) (by omega) (by rw [hz1]; omega) (by rw [hz2]; omega) (by omega)
  rw [hz1, Int.toNat_natCast, Nat.mul_one] at this
  exact this
theorem conv_one {w : World} {b : Nat} {x : Int} (h : w.heap[b]? = some (.cells #[.int .u8 x] 5 (0, 0))) : (convert 28 9 (.slice (some ⟨b, 0, none⟩) 1 1)).run Try.prog w = .ok (.string (strOfNums [x])) w := by
  refine run_convert_bytes_arg w 28 5 Try.underlying28 (by kernel_rfl) b 0 1 1 [x] rfl (fun i hi => ?_) _ und_str
  obtain rfl : i = 0 := by omega
  rw [cell_of_row _ _ _ _ _ _ h]
  rfl
theorem conv_made {w : World} {b n : Nat} (h : w.heap[b]? = some (.cells (madeCells #[.int .u8 0] n) 5 (0, 0))) : (convert 28 9 (.slice (some ⟨b, 0, none⟩) n n)).run Try.prog w = .ok (.string (strOfNums (List.replicate n 0))) w := by
  refine run_convert_bytes_arg w 28 5 Try.underlying28 (by kernel_rfl) b 0 n n (List.replicate n 0) (by simp) (fun i hi => ?_) _ und_str
  rw [Nat.zero_add, cell_of_row _ _ _ _ _ _ h]
  simp [madeCells, hi, Nat.mod_one]
/-- what an append answers where nothing halts -/
theorem appR_up {s : Dst} (hU : Up s) (hn : (s.files.map (·.1)).Nodup) (nm x : ByteArray) (hnm : nm.size ≤ 20) {k : Nat} (hG : Gd s k) : ∃ r s', appR s nm x = (r, s') ∧ Up s' ∧ Gd s' (k + 1) ∧ s'.room = s.room ∧ ((r = 5 ∧ s.room < (used s.files : Int) + x.size ∧ used s'.files = used s.files) ∨ (r = 0 ∧ (used s.files : Int) + x.size ≤ s.room ∧ used s'.files = used s.files + x.size)) := by
  obtain ⟨r, s', h⟩ : ∃ r s', appR s nm x = (r, s') := ⟨_, _, rfl⟩
  have h1 : Up (appR s nm x).2 := deedR_up hU _ _ _ _
  have h2 : Gd (appR s nm x).2 (k + 1) := deedR_gd hG _ _ _ _ (fput_names hG.names hnm) (Nat.le_trans (fput_length _ _ _) (by have := hG.few; omega))
  have hu := used_put' hn nm ((fget s.files nm).1 ++ x, (fget s.files nm).2)
  simp only [ByteArray.size_append] at hu
  have h3 : (appR s nm x).2.room = s.room ∧ (((appR s nm x).1 = 5 ∧ s.room < (used s.files : Int) + x.size ∧ used (appR s nm x).2.files = used s.files) ∨ ((appR s nm x).1 = 0 ∧ (used s.files : Int) + x.size ≤ s.room ∧ used (appR s nm x).2.files = used s.files + x.size)) := by
    unfold appR deedR mayApp
    rw [if_neg (by rw [hU.down]; decide)]
    simp only [Bool.false_and, Bool.false_eq_true, if_false]
    by_cases hb : s.room - (used s.files : Int) < x.size
    · simp only [if_pos hb, if_pos (show (5 : Int) ≠ 0 by decide)]
      exact ⟨trivial, .inl ⟨trivial, by omega, trivial⟩⟩
    · simp only [if_neg hb]
      rw [if_neg (by decide), if_neg (by rw [hU.halt]; decide)]
      exact ⟨(turnR_room s).1, .inr ⟨rfl, by omega, by show used (fput _ _ _) = _; omega⟩⟩
  rw [h] at h1 h2 h3
  exact ⟨r, s', h, h1, h2, h3⟩
def SpecRm (d m : Nat) (s : Dst) (r : Int) (s' : Dst) (c : Int) (n : Nat) : Nat → World → World → Value → Prop
  | 5, W, W', u => W' = W.alloc (.cells #[.int .u8 c] 5) ∧ u = .slice (some ⟨W.heap.size, 0, none⟩) 1 1
  | 8, W, W', u => W' = W.alloc (.cells (madeCells #[.int .u8 0] n) 5) ∧ u = .slice (some ⟨W.heap.size, 0, none⟩) n n
  | 6, W, W', u => W' = W ∧ u = .string (strOfNums [c])
  | 9, W, W', u => W' = W ∧ u = .string (strOfNums (List.replicate n 0))
  | 10, W, W', u => u = .int .i64 r ∧ (DiskAt W d m s → DiskAt W' d m s' ∧ Touch [d, m] W W')
  | _, W, W', _ => W' = W
theorem specRm_tot (d m : Nat) (s : Dst) (r : Int) (s' : Dst) (c : Int) (n : Nat) (hc : ∀ W, DiskAt W d m s → ∃ e w', e = Ending.returned (.int .i64 r) ∧ DiskAt w' d m s' ∧ Touch [d, m] W w') (i : Nat) (W : World) : ∃ W' u, SpecRm d m s r s' c n i W W' u := by
  by_cases h5 : i = 5
  · subst h5; exact ⟨_, _, rfl, rfl⟩
  by_cases h8 : i = 8
  · subst h8; exact ⟨_, _, rfl, rfl⟩
  by_cases h6 : i = 6
  · subst h6; exact ⟨W, _, rfl, rfl⟩
  by_cases h9 : i = 9
  · subst h9; exact ⟨W, _, rfl, rfl⟩
  by_cases h10 : i = 10
  · subst h10
    by_cases hD : DiskAt W d m s
    · obtain ⟨e, w', rfl, h1, h2⟩ := hc W hD
      exact ⟨w', _, rfl, fun _ => ⟨h1, h2⟩⟩
    · exact ⟨W, _, rfl, fun h => absurd h hD⟩
  · refine ⟨W, undef, ?_⟩
    unfold SpecRm
    split
    · omega
    · omega
    · omega
    · omega
    · omega
    · rfl
def RmRel (w : World) (d m : Nat) (R : Int) (n : Nat) (u i : Value) (wr : World) : Prop :=
  ∃ (j : Nat) (s : Dst), i = .int .i64 (j : Int) ∧ u = .int .i64 (used s.files : Int) ∧ j ≤ n ∧ j ≤ 20 ∧ DiskAt wr d m s ∧ Gd s j ∧ Up s ∧ s.room = R ∧ Below w.heap.size w wr
set_option maxHeartbeats 16000000 in
set_option maxRecDepth 100000 in
theorem W_DiskRoom (room : Int) (A0 : Option Addr) (cap0 : Nat) (sizes : List Int) (w : World) (hal : sizes.length ≤ 9223372036854775807) (hA : RowsAt fi 1 w A0 sizes) :
    Calls Try.prog 3 #[.int .i64 room, .slice A0 sizes.length cap0] w fun e w' => e = .returned (.bool true) ∧ Below w.heap.size w w' := by
  have HA := Lib.hid hA
  clear hA
  go_enter Try.func3, Try.ntmps3
  go_wp2_with fail
  go_at_call 7
  with_reducible refine (D_awake w).mono ?_
  rintro e w1 ⟨rfl, b1⟩
  have B1 := Lib.hid b1
  clear b1
  go_wp2_with fail
  obtain ⟨R, hR⟩ : ∃ R, max 0 (min room 500) = R := ⟨_, rfl⟩
  rw [hR]
  have hR0 : 0 ≤ R ∧ R ≤ 500 := by omega
  clear hR
  go_at_call 8
  with_reducible refine (D_new w1 R).mono ?_
  rintro e w2 ⟨d, m, rfl, h2, b2, hd, hm⟩
  have e1 : max 0 (min R 1073741824) = R := by omega
  rw [e1] at h2
  have B2 := Lib.hid (B1.out.trans (b2.mono B1.out.size))
  have HD := Lib.hid (Nat.le_trans B1.out.size hd)
  have HM := Lib.hid (Nat.le_trans B1.out.size hm)
  have H2 := Lib.hid h2
  clear h2 b2 hd hm e1
  go_wp2_with fail
  go_loopw [6, 7] (fun u i wr => RmRel w d m R sizes.length u i wr) (fun _ i _ => 20 - (intOf i).toNat)
  case atStart => exact ⟨0, _, rfl, rfl, by omega, by omega, H2.out, gd_new _, ⟨rfl, rfl⟩, rfl, B2.out⟩
  case round =>
    obtain ⟨j, s, rfl, rfl, hj, hj30, hDD, hG, hU, hRm, hB⟩ := hrel
    have HG := Lib.hid hG
    have HU := Lib.hid hU
    have HB := Lib.hid hB
    have HDD := Lib.hid hDD
    have hj0 : (0 : Int) ≤ (j : Int) := by omega
    have hus : (used s.files : Int) ≤ R := by have := hDD.used; omega
    by_cases hlt : j < sizes.length ∧ j < 20
    · obtain ⟨h1, h2⟩ := hlt
      have hj1 : (j : Int) < (sizes.length : Int) := by omega
      have hj2 : (j : Int) < 20 := by omega
      obtain ⟨ad, rfl, hadl, hcell⟩ := (HA.out.below HB.out rfl) j h1
      have q0 := hcell 0 _ rfl
      generalize sizes[j] = v at q0 hcell
      simp only [caddr, Nat.mul_one] at q0
      clear hcell hadl h1
      go_upto_region 12 with (fail)
      obtain ⟨n, hn⟩ : ∃ n : Nat, max 0 (min v 300) = (n : Int) := ⟨(max 0 (min v 300)).toNat, by omega⟩
      rw [hn]
      have hn3 : n ≤ 300 := by omega
      obtain ⟨c8, hc8⟩ : ∃ c8, IntKind.u8.wrap (IntKind.i64.wrap (97 + (j : Int).tmod 3)) = c8 := ⟨_, rfl⟩
      obtain ⟨r, s', hap, hU', hG', hr', hcase⟩ := appR_up hU hDD.nodup (strOfNums [c8]) (strOfNums (List.replicate n 0)) (by rw [strOfNums_size]; simp) hG
      rw [strOfNums_size, List.length_replicate] at hcase
      have HCON : ∀ W, DiskAt W d m s → Calls Try.prog 9 #[ptr d, .string (strOfNums [c8]), .string (strOfNums (List.replicate n 0))] W fun e w' => e = .returned (.int .i64 r) ∧ DiskAt w' d m s' ∧ Touch [d, m] W w' := fun W hW => by
        have := D_append hW (by have := hG.deeds; omega) (strOfNums [c8]) (strOfNums (List.replicate n 0))
        rw [hap] at this
        exact this
      have HC := Lib.hid HCON
      have HCASE := Lib.hid hcase
      have HU' := Lib.hid hU'
      have HG' := Lib.hid hG'
      have HR' := Lib.hid hr'
      clear hn q0 hap hU' hG' hr' hcase hU hG HCON hDD hB
      go_cut [9] from 19 to 70 (fun u wx => u = .int .i64 r ∧ DiskAt wx d m s' ∧ Below w.heap.size w wx)
      case first =>
        --BEGIN
        refine region_fix4 [[5, 6, 8, 9, 10], [5, 8, 6, 9, 10], [5, 8, 9, 6, 10], [8, 5, 6, 9, 10], [8, 5, 9, 6, 10], [8, 9, 5, 6, 10]] [5, 6, 8, 9, 10] rfl (SpecRm d m s r s' c8 n) (by kernel_rfl) (by kernel_rfl) (specRm_tot d m s r s' _ n (fun W hW => callsSome (HC.out W hW))) fun E hE g g0 hC => ?_
        have hmk := fun W => make_bytes W n (by omega)
        have hsl := fun W => slice_byte W c8
        rcases List.mem_cons.1 hE with rfl | hE
        · clear hE
          have c0 : (g 1).1 = (g 0).1.alloc (.cells #[.int .u8 c8] 5) ∧ (g 1).2 = .slice (some ⟨(g 0).1.heap.size, 0, none⟩) 1 1 := hC 0 (by decide)
          have b0 : Below (g 0).1.heap.size (g 0).1 (g 1).1 := by rw [c0.1]; exact (Below.refl _ _).alloc (Nat.le_refl _) _
          have c1 : (g 2).1 = (g 1).1 ∧ (g 2).2 = .string (strOfNums [c8]) := hC 1 (by decide)
          have b1 : Below (g 1).1.heap.size (g 1).1 (g 2).1 := by rw [c1.1]; exact Below.refl _ _
          have c2 : (g 3).1 = (g 2).1.alloc (.cells (madeCells #[.int .u8 0] n) 5) ∧ (g 3).2 = .slice (some ⟨(g 2).1.heap.size, 0, none⟩) n n := hC 2 (by decide)
          have b2 : Below (g 2).1.heap.size (g 2).1 (g 3).1 := by rw [c2.1]; exact (Below.refl _ _).alloc (Nat.le_refl _) _
          have c3 : (g 4).1 = (g 3).1 ∧ (g 4).2 = .string (strOfNums (List.replicate n 0)) := hC 3 (by decide)
          have b3 : Below (g 3).1.heap.size (g 3).1 (g 4).1 := by rw [c3.1]; exact Below.refl _ _
          have c4 : (g 5).2 = .int .i64 r ∧ (DiskAt (g 4).1 d m s → DiskAt (g 5).1 d m s' ∧ Touch [d, m] (g 4).1 (g 5).1) := hC 4 (by decide)
          have d0 : DiskAt (g 0).1 d m s := by rw [g0]; exact HDD.out.of_blocks rfl rfl
          have l0 : Below w.heap.size w (g 0).1 := by rw [g0]; exact HB.out.drew
          have d1 := d0.below b0
          have l1 := l0.trans (b0.mono l0.size)
          have d2 := d1.below b1
          have l2 := l1.trans (b1.mono l1.size)
          have d3 := d2.below b2
          have l3 := l2.trans (b2.mono l2.size)
          have d4 := d3.below b3
          have l4 := l3.trans (b3.mono l3.size)
          have hn1 : (g 1).1.heap[(g 0).1.heap.size]? = some (.cells #[.int .u8 c8] 5 (0, 0)) := by rw [c0.1]; exact push_new rfl
          have cvn := conv_one hn1
          have hx3 : (g 3).1.heap[(g 2).1.heap.size]? = some (.cells (madeCells #[.int .u8 0] n) 5 (0, 0)) := by rw [c2.1]; exact push_new rfl
          have cvx := conv_made hx3
          have hcon := HC.out _ d4
          have q0 := c0.2
          have q1 := c1.2
          have q2 := c2.2
          have q3 := c3.2
          have q4 := c4.1
          have hfin := c4.2 d4
          have HFIN := Lib.hid (And.intro hfin.1 (below_touch l4 hfin.2 HD.out HM.out))
          have Q0 := Lib.hid q0
          have Q1 := Lib.hid q1
          have Q2 := Lib.hid q2
          have Q3 := Lib.hid q3
          have Q4 := Lib.hid q4
          have HCV := Lib.hid cvn
          have HCX := Lib.hid cvx
          have HCON := Lib.hid hcon
          clear hC g0 cvn cvx hcon hfin c0 q0 c1 q1 c2 q2 c3 q3 c4 q4 b0 b1 b2 b3 d0 l0 d1 l1 d2 l2 d3 l3 d4 l4 hn1 hx3
          refine fix4_step ?_ (by kernel_rfl) rfl (fun J s _ _ hJ => ?_) ?_
          rotate_left
          · go_simp
            exact hJ _ rfl
          intro J hJ
          go_simp
          refine hJ _ ?_
          clear hJ J
          refine fix4_step ?_ (by kernel_rfl) rfl (fun J s _ _ hJ => ?_) ?_
          rotate_left
          · go_simp
            exact hJ _ rfl
          intro J hJ
          go_simp
          refine hJ _ ?_
          clear hJ J
          refine fix4_step ?_ (by kernel_rfl) rfl (fun J s _ _ hJ => ?_) ?_
          rotate_left
          · go_simp
            exact hJ _ rfl
          intro J hJ
          go_simp
          refine hJ _ ?_
          clear hJ J
          refine fix4_step ?_ (by kernel_rfl) rfl (fun J s _ _ hJ => ?_) ?_
          rotate_left
          · go_simp
            exact hJ _ rfl
          intro J hJ
          go_simp
          refine hJ _ ?_
          clear hJ J
          refine fix4_step (.int .u8 c8) (by kernel_rfl) rfl (fun J s _ _ hJ => ?_) ?_
          · go_simp
            exact hJ _ rfl
          intro J hJ
          go_simp
          refine hJ _ ?_
          clear hJ J
          refine fix4_eff 0 ((.slice (some ⟨(g 0).1.heap.size, 0, none⟩) 1 1)) (Q0.out) (by kernel_rfl) rfl (fun J hJ => ?_) ?_
          · (go_simp; exact hJ _ _ ⟨rfl, rfl⟩)
          intro J hJ
          go_simp
          refine hJ _ ?_
          clear hJ J
          refine fix4_eff 1 ((.string (strOfNums [c8]))) (Q1.out) (by kernel_rfl) rfl (fun J hJ => ?_) ?_
          · (have hc := HCV.out; go_simp; exact hJ _ _ ⟨rfl, rfl⟩)
          intro J hJ
          go_simp
          refine hJ _ ?_
          clear hJ J
          refine fix4_step ?_ (by kernel_rfl) rfl (fun J s _ _ hJ => ?_) ?_
          rotate_left
          · go_simp
            exact hJ _ rfl
          intro J hJ
          go_simp
          refine hJ _ ?_
          clear hJ J
          refine fix4_eff 2 ((.slice (some ⟨(g 2).1.heap.size, 0, none⟩) n n)) (Q2.out) (by kernel_rfl) rfl (fun J hJ => ?_) ?_
          · (go_simp; exact hJ _ _ ⟨rfl, rfl⟩)
          intro J hJ
          go_simp
          refine hJ _ ?_
          clear hJ J
          refine fix4_eff 3 ((.string (strOfNums (List.replicate n 0)))) (Q3.out) (by kernel_rfl) rfl (fun J hJ => ?_) ?_
          · (have hc := HCX.out; go_simp; exact hJ _ _ ⟨rfl, rfl⟩)
          intro J hJ
          go_simp
          refine hJ _ ?_
          clear hJ J
          refine fix4_eff 4 ((.int .i64 r)) (Q4.out) (by kernel_rfl) rfl (fun J hJ => ?_) ?_
          · (go_simp; go_at_call 9; refine HCON.out.mono ?_; rintro e W1 ⟨rfl, g1, g2⟩; exact hJ _ _ ⟨rfl, fun _ => ⟨g1, g2⟩⟩)
          intro J hJ
          go_simp
          refine hJ _ ?_
          clear hJ J
          refine fix4_step ?_ (by kernel_rfl) rfl (fun J s _ _ hJ => ?_) ?_
          rotate_left
          · go_simp
            exact hJ _ rfl
          intro J hJ
          go_simp
          refine hJ _ ?_
          clear hJ J
          refine fix4_nil ?_
          have hg : g [5, 6, 8, 9, 10].length = g 5 := rfl
          first | rw [hg] | skip
          go_wp2
          go_meet
          case rel => exact ⟨rfl, HFIN.out.1, HFIN.out.2⟩
        rcases List.mem_cons.1 hE with rfl | hE
        · clear hE
          have c0 : (g 1).1 = (g 0).1.alloc (.cells #[.int .u8 c8] 5) ∧ (g 1).2 = .slice (some ⟨(g 0).1.heap.size, 0, none⟩) 1 1 := hC 0 (by decide)
          have b0 : Below (g 0).1.heap.size (g 0).1 (g 1).1 := by rw [c0.1]; exact (Below.refl _ _).alloc (Nat.le_refl _) _
          have c1 : (g 2).1 = (g 1).1.alloc (.cells (madeCells #[.int .u8 0] n) 5) ∧ (g 2).2 = .slice (some ⟨(g 1).1.heap.size, 0, none⟩) n n := hC 1 (by decide)
          have b1 : Below (g 1).1.heap.size (g 1).1 (g 2).1 := by rw [c1.1]; exact (Below.refl _ _).alloc (Nat.le_refl _) _
          have c2 : (g 3).1 = (g 2).1 ∧ (g 3).2 = .string (strOfNums [c8]) := hC 2 (by decide)
          have b2 : Below (g 2).1.heap.size (g 2).1 (g 3).1 := by rw [c2.1]; exact Below.refl _ _
          have c3 : (g 4).1 = (g 3).1 ∧ (g 4).2 = .string (strOfNums (List.replicate n 0)) := hC 3 (by decide)
          have b3 : Below (g 3).1.heap.size (g 3).1 (g 4).1 := by rw [c3.1]; exact Below.refl _ _
          have c4 : (g 5).2 = .int .i64 r ∧ (DiskAt (g 4).1 d m s → DiskAt (g 5).1 d m s' ∧ Touch [d, m] (g 4).1 (g 5).1) := hC 4 (by decide)
          have d0 : DiskAt (g 0).1 d m s := by rw [g0]; exact HDD.out.of_blocks rfl rfl
          have l0 : Below w.heap.size w (g 0).1 := by rw [g0]; exact HB.out.drew
          have d1 := d0.below b0
          have l1 := l0.trans (b0.mono l0.size)
          have d2 := d1.below b1
          have l2 := l1.trans (b1.mono l1.size)
          have d3 := d2.below b2
          have l3 := l2.trans (b2.mono l2.size)
          have d4 := d3.below b3
          have l4 := l3.trans (b3.mono l3.size)
          have hn1 : (g 1).1.heap[(g 0).1.heap.size]? = some (.cells #[.int .u8 c8] 5 (0, 0)) := by rw [c0.1]; exact push_new rfl
          have hn2 := (b1.block _ (lt_of_heap hn1)).trans hn1
          have cvn := conv_one hn2
          have hx2 : (g 2).1.heap[(g 1).1.heap.size]? = some (.cells (madeCells #[.int .u8 0] n) 5 (0, 0)) := by rw [c1.1]; exact push_new rfl
          have hx3 := (b2.block _ (lt_of_heap hx2)).trans hx2
          have cvx := conv_made hx3
          have hcon := HC.out _ d4
          have q0 := c0.2
          have q1 := c1.2
          have q2 := c2.2
          have q3 := c3.2
          have q4 := c4.1
          have hfin := c4.2 d4
          have HFIN := Lib.hid (And.intro hfin.1 (below_touch l4 hfin.2 HD.out HM.out))
          have Q0 := Lib.hid q0
          have Q1 := Lib.hid q1
          have Q2 := Lib.hid q2
          have Q3 := Lib.hid q3
          have Q4 := Lib.hid q4
          have HCV := Lib.hid cvn
          have HCX := Lib.hid cvx
          have HCON := Lib.hid hcon
          clear hC g0 cvn cvx hcon hfin c0 q0 c1 q1 c2 q2 c3 q3 c4 q4 b0 b1 b2 b3 d0 l0 d1 l1 d2 l2 d3 l3 d4 l4 hn1 hn2 hx2 hx3
          refine fix4_step ?_ (by kernel_rfl) rfl (fun J s _ _ hJ => ?_) ?_
          rotate_left
          · go_simp
            exact hJ _ rfl
          intro J hJ
          go_simp
          refine hJ _ ?_
          clear hJ J
          refine fix4_step ?_ (by kernel_rfl) rfl (fun J s _ _ hJ => ?_) ?_
          rotate_left
          · go_simp
            exact hJ _ rfl
          intro J hJ
          go_simp
          refine hJ _ ?_
          clear hJ J
          refine fix4_step ?_ (by kernel_rfl) rfl (fun J s _ _ hJ => ?_) ?_
          rotate_left
          · go_simp
            exact hJ _ rfl
          intro J hJ
          go_simp
          refine hJ _ ?_
          clear hJ J
          refine fix4_step ?_ (by kernel_rfl) rfl (fun J s _ _ hJ => ?_) ?_
          rotate_left
          · go_simp
            exact hJ _ rfl
          intro J hJ
          go_simp
          refine hJ _ ?_
          clear hJ J
          refine fix4_step (.int .u8 c8) (by kernel_rfl) rfl (fun J s _ _ hJ => ?_) ?_
          · go_simp
            exact hJ _ rfl
          intro J hJ
          go_simp
          refine hJ _ ?_
          clear hJ J
          refine fix4_eff 0 ((.slice (some ⟨(g 0).1.heap.size, 0, none⟩) 1 1)) (Q0.out) (by kernel_rfl) rfl (fun J hJ => ?_) ?_
          · (go_simp; exact hJ _ _ ⟨rfl, rfl⟩)
          intro J hJ
          go_simp
          refine hJ _ ?_
          clear hJ J
          refine fix4_eff 2 ((.string (strOfNums [c8]))) (Q2.out) (by kernel_rfl) rfl (fun J hJ => ?_) ?_
          · (have hc := HCV.out; go_simp; exact hJ _ _ ⟨rfl, rfl⟩)
          intro J hJ
          go_simp
          refine hJ _ ?_
          clear hJ J
          refine fix4_step ?_ (by kernel_rfl) rfl (fun J s _ _ hJ => ?_) ?_
          rotate_left
          · go_simp
            exact hJ _ rfl
          intro J hJ
          go_simp
          refine hJ _ ?_
          clear hJ J
          refine fix4_eff 1 ((.slice (some ⟨(g 1).1.heap.size, 0, none⟩) n n)) (Q1.out) (by kernel_rfl) rfl (fun J hJ => ?_) ?_
          · (go_simp; exact hJ _ _ ⟨rfl, rfl⟩)
          intro J hJ
          go_simp
          refine hJ _ ?_
          clear hJ J
          refine fix4_eff 3 ((.string (strOfNums (List.replicate n 0)))) (Q3.out) (by kernel_rfl) rfl (fun J hJ => ?_) ?_
          · (have hc := HCX.out; go_simp; exact hJ _ _ ⟨rfl, rfl⟩)
          intro J hJ
          go_simp
          refine hJ _ ?_
          clear hJ J
          refine fix4_eff 4 ((.int .i64 r)) (Q4.out) (by kernel_rfl) rfl (fun J hJ => ?_) ?_
          · (go_simp; go_at_call 9; refine HCON.out.mono ?_; rintro e W1 ⟨rfl, g1, g2⟩; exact hJ _ _ ⟨rfl, fun _ => ⟨g1, g2⟩⟩)
          intro J hJ
          go_simp
          refine hJ _ ?_
          clear hJ J
          refine fix4_step ?_ (by kernel_rfl) rfl (fun J s _ _ hJ => ?_) ?_
          rotate_left
          · go_simp
            exact hJ _ rfl
          intro J hJ
          go_simp
          refine hJ _ ?_
          clear hJ J
          refine fix4_nil ?_
          have hg : g [5, 6, 8, 9, 10].length = g 5 := rfl
          first | rw [hg] | skip
          go_wp2
          go_meet
          case rel => exact ⟨rfl, HFIN.out.1, HFIN.out.2⟩
        rcases List.mem_cons.1 hE with rfl | hE
        · clear hE
          have c0 : (g 1).1 = (g 0).1.alloc (.cells #[.int .u8 c8] 5) ∧ (g 1).2 = .slice (some ⟨(g 0).1.heap.size, 0, none⟩) 1 1 := hC 0 (by decide)
          have b0 : Below (g 0).1.heap.size (g 0).1 (g 1).1 := by rw [c0.1]; exact (Below.refl _ _).alloc (Nat.le_refl _) _
          have c1 : (g 2).1 = (g 1).1.alloc (.cells (madeCells #[.int .u8 0] n) 5) ∧ (g 2).2 = .slice (some ⟨(g 1).1.heap.size, 0, none⟩) n n := hC 1 (by decide)
          have b1 : Below (g 1).1.heap.size (g 1).1 (g 2).1 := by rw [c1.1]; exact (Below.refl _ _).alloc (Nat.le_refl _) _
          have c2 : (g 3).1 = (g 2).1 ∧ (g 3).2 = .string (strOfNums (List.replicate n 0)) := hC 2 (by decide)
          have b2 : Below (g 2).1.heap.size (g 2).1 (g 3).1 := by rw [c2.1]; exact Below.refl _ _
          have c3 : (g 4).1 = (g 3).1 ∧ (g 4).2 = .string (strOfNums [c8]) := hC 3 (by decide)
          have b3 : Below (g 3).1.heap.size (g 3).1 (g 4).1 := by rw [c3.1]; exact Below.refl _ _
          have c4 : (g 5).2 = .int .i64 r ∧ (DiskAt (g 4).1 d m s → DiskAt (g 5).1 d m s' ∧ Touch [d, m] (g 4).1 (g 5).1) := hC 4 (by decide)
          have d0 : DiskAt (g 0).1 d m s := by rw [g0]; exact HDD.out.of_blocks rfl rfl
          have l0 : Below w.heap.size w (g 0).1 := by rw [g0]; exact HB.out.drew
          have d1 := d0.below b0
          have l1 := l0.trans (b0.mono l0.size)
          have d2 := d1.below b1
          have l2 := l1.trans (b1.mono l1.size)
          have d3 := d2.below b2
          have l3 := l2.trans (b2.mono l2.size)
          have d4 := d3.below b3
          have l4 := l3.trans (b3.mono l3.size)
          have hn1 : (g 1).1.heap[(g 0).1.heap.size]? = some (.cells #[.int .u8 c8] 5 (0, 0)) := by rw [c0.1]; exact push_new rfl
          have hn2 := (b1.block _ (lt_of_heap hn1)).trans hn1
          have hn3 := (b2.block _ (lt_of_heap hn2)).trans hn2
          have cvn := conv_one hn3
          have hx2 : (g 2).1.heap[(g 1).1.heap.size]? = some (.cells (madeCells #[.int .u8 0] n) 5 (0, 0)) := by rw [c1.1]; exact push_new rfl
          have cvx := conv_made hx2
          have hcon := HC.out _ d4
          have q0 := c0.2
          have q1 := c1.2
          have q2 := c2.2
          have q3 := c3.2
          have q4 := c4.1
          have hfin := c4.2 d4
          have HFIN := Lib.hid (And.intro hfin.1 (below_touch l4 hfin.2 HD.out HM.out))
          have Q0 := Lib.hid q0
          have Q1 := Lib.hid q1
          have Q2 := Lib.hid q2
          have Q3 := Lib.hid q3
          have Q4 := Lib.hid q4
          have HCV := Lib.hid cvn
          have HCX := Lib.hid cvx
          have HCON := Lib.hid hcon
          clear hC g0 cvn cvx hcon hfin c0 q0 c1 q1 c2 q2 c3 q3 c4 q4 b0 b1 b2 b3 d0 l0 d1 l1 d2 l2 d3 l3 d4 l4 hn1 hn2 hn3 hx2
          refine fix4_step ?_ (by kernel_rfl) rfl (fun J s _ _ hJ => ?_) ?_
          rotate_left
          · go_simp
            exact hJ _ rfl
          intro J hJ
          go_simp
          refine hJ _ ?_
          clear hJ J
          refine fix4_step ?_ (by kernel_rfl) rfl (fun J s _ _ hJ => ?_) ?_
          rotate_left
          · go_simp
            exact hJ _ rfl
          intro J hJ
          go_simp
          refine hJ _ ?_
          clear hJ J
          refine fix4_step ?_ (by kernel_rfl) rfl (fun J s _ _ hJ => ?_) ?_
          rotate_left
          · go_simp
            exact hJ _ rfl
          intro J hJ
          go_simp
          refine hJ _ ?_
          clear hJ J
          refine fix4_step ?_ (by kernel_rfl) rfl (fun J s _ _ hJ => ?_) ?_
          rotate_left
          · go_simp
            exact hJ _ rfl
          intro J hJ
          go_simp
          refine hJ _ ?_
          clear hJ J
          refine fix4_step (.int .u8 c8) (by kernel_rfl) rfl (fun J s _ _ hJ => ?_) ?_
          · go_simp
            exact hJ _ rfl
          intro J hJ
          go_simp
          refine hJ _ ?_
          clear hJ J
          refine fix4_eff 0 ((.slice (some ⟨(g 0).1.heap.size, 0, none⟩) 1 1)) (Q0.out) (by kernel_rfl) rfl (fun J hJ => ?_) ?_
          · (go_simp; exact hJ _ _ ⟨rfl, rfl⟩)
          intro J hJ
          go_simp
          refine hJ _ ?_
          clear hJ J
          refine fix4_eff 3 ((.string (strOfNums [c8]))) (Q3.out) (by kernel_rfl) rfl (fun J hJ => ?_) ?_
          · (have hc := HCV.out; go_simp; exact hJ _ _ ⟨rfl, rfl⟩)
          intro J hJ
          go_simp
          refine hJ _ ?_
          clear hJ J
          refine fix4_step ?_ (by kernel_rfl) rfl (fun J s _ _ hJ => ?_) ?_
          rotate_left
          · go_simp
            exact hJ _ rfl
          intro J hJ
          go_simp
          refine hJ _ ?_
          clear hJ J
          refine fix4_eff 1 ((.slice (some ⟨(g 1).1.heap.size, 0, none⟩) n n)) (Q1.out) (by kernel_rfl) rfl (fun J hJ => ?_) ?_
          · (go_simp; exact hJ _ _ ⟨rfl, rfl⟩)
          intro J hJ
          go_simp
          refine hJ _ ?_
          clear hJ J
          refine fix4_eff 2 ((.string (strOfNums (List.replicate n 0)))) (Q2.out) (by kernel_rfl) rfl (fun J hJ => ?_) ?_
          · (have hc := HCX.out; go_simp; exact hJ _ _ ⟨rfl, rfl⟩)
          intro J hJ
          go_simp
          refine hJ _ ?_
          clear hJ J
          refine fix4_eff 4 ((.int .i64 r)) (Q4.out) (by kernel_rfl) rfl (fun J hJ => ?_) ?_
          · (go_simp; go_at_call 9; refine HCON.out.mono ?_; rintro e W1 ⟨rfl, g1, g2⟩; exact hJ _ _ ⟨rfl, fun _ => ⟨g1, g2⟩⟩)
          intro J hJ
          go_simp
          refine hJ _ ?_
          clear hJ J
          refine fix4_step ?_ (by kernel_rfl) rfl (fun J s _ _ hJ => ?_) ?_
          rotate_left
          · go_simp
            exact hJ _ rfl
          intro J hJ
          go_simp
          refine hJ _ ?_
          clear hJ J
          refine fix4_nil ?_
          have hg : g [5, 6, 8, 9, 10].length = g 5 := rfl
          first | rw [hg] | skip
          go_wp2
          go_meet
          case rel => exact ⟨rfl, HFIN.out.1, HFIN.out.2⟩
        rcases List.mem_cons.1 hE with rfl | hE
        · clear hE
          have c0 : (g 1).1 = (g 0).1.alloc (.cells (madeCells #[.int .u8 0] n) 5) ∧ (g 1).2 = .slice (some ⟨(g 0).1.heap.size, 0, none⟩) n n := hC 0 (by decide)
          have b0 : Below (g 0).1.heap.size (g 0).1 (g 1).1 := by rw [c0.1]; exact (Below.refl _ _).alloc (Nat.le_refl _) _
          have c1 : (g 2).1 = (g 1).1.alloc (.cells #[.int .u8 c8] 5) ∧ (g 2).2 = .slice (some ⟨(g 1).1.heap.size, 0, none⟩) 1 1 := hC 1 (by decide)
          have b1 : Below (g 1).1.heap.size (g 1).1 (g 2).1 := by rw [c1.1]; exact (Below.refl _ _).alloc (Nat.le_refl _) _
          have c2 : (g 3).1 = (g 2).1 ∧ (g 3).2 = .string (strOfNums [c8]) := hC 2 (by decide)
          have b2 : Below (g 2).1.heap.size (g 2).1 (g 3).1 := by rw [c2.1]; exact Below.refl _ _
          have c3 : (g 4).1 = (g 3).1 ∧ (g 4).2 = .string (strOfNums (List.replicate n 0)) := hC 3 (by decide)
          have b3 : Below (g 3).1.heap.size (g 3).1 (g 4).1 := by rw [c3.1]; exact Below.refl _ _
          have c4 : (g 5).2 = .int .i64 r ∧ (DiskAt (g 4).1 d m s → DiskAt (g 5).1 d m s' ∧ Touch [d, m] (g 4).1 (g 5).1) := hC 4 (by decide)
          have d0 : DiskAt (g 0).1 d m s := by rw [g0]; exact HDD.out.of_blocks rfl rfl
          have l0 : Below w.heap.size w (g 0).1 := by rw [g0]; exact HB.out.drew
          have d1 := d0.below b0
          have l1 := l0.trans (b0.mono l0.size)
          have d2 := d1.below b1
          have l2 := l1.trans (b1.mono l1.size)
          have d3 := d2.below b2
          have l3 := l2.trans (b2.mono l2.size)
          have d4 := d3.below b3
          have l4 := l3.trans (b3.mono l3.size)
          have hn2 : (g 2).1.heap[(g 1).1.heap.size]? = some (.cells #[.int .u8 c8] 5 (0, 0)) := by rw [c1.1]; exact push_new rfl
          have cvn := conv_one hn2
          have hx1 : (g 1).1.heap[(g 0).1.heap.size]? = some (.cells (madeCells #[.int .u8 0] n) 5 (0, 0)) := by rw [c0.1]; exact push_new rfl
          have hx2 := (b1.block _ (lt_of_heap hx1)).trans hx1
          have hx3 := (b2.block _ (lt_of_heap hx2)).trans hx2
          have cvx := conv_made hx3
          have hcon := HC.out _ d4
          have q0 := c0.2
          have q1 := c1.2
          have q2 := c2.2
          have q3 := c3.2
          have q4 := c4.1
          have hfin := c4.2 d4
          have HFIN := Lib.hid (And.intro hfin.1 (below_touch l4 hfin.2 HD.out HM.out))
          have Q0 := Lib.hid q0
          have Q1 := Lib.hid q1
          have Q2 := Lib.hid q2
          have Q3 := Lib.hid q3
          have Q4 := Lib.hid q4
          have HCV := Lib.hid cvn
          have HCX := Lib.hid cvx
          have HCON := Lib.hid hcon
          clear hC g0 cvn cvx hcon hfin c0 q0 c1 q1 c2 q2 c3 q3 c4 q4 b0 b1 b2 b3 d0 l0 d1 l1 d2 l2 d3 l3 d4 l4 hn2 hx1 hx2 hx3
          refine fix4_step ?_ (by kernel_rfl) rfl (fun J s _ _ hJ => ?_) ?_
          rotate_left
          · go_simp
            exact hJ _ rfl
          intro J hJ
          go_simp
          refine hJ _ ?_
          clear hJ J
          refine fix4_step ?_ (by kernel_rfl) rfl (fun J s _ _ hJ => ?_) ?_
          rotate_left
          · go_simp
            exact hJ _ rfl
          intro J hJ
          go_simp
          refine hJ _ ?_
          clear hJ J
          refine fix4_step ?_ (by kernel_rfl) rfl (fun J s _ _ hJ => ?_) ?_
          rotate_left
          · go_simp
            exact hJ _ rfl
          intro J hJ
          go_simp
          refine hJ _ ?_
          clear hJ J
          refine fix4_step ?_ (by kernel_rfl) rfl (fun J s _ _ hJ => ?_) ?_
          rotate_left
          · go_simp
            exact hJ _ rfl
          intro J hJ
          go_simp
          refine hJ _ ?_
          clear hJ J
          refine fix4_step (.int .u8 c8) (by kernel_rfl) rfl (fun J s _ _ hJ => ?_) ?_
          · go_simp
            exact hJ _ rfl
          intro J hJ
          go_simp
          refine hJ _ ?_
          clear hJ J
          refine fix4_eff 1 ((.slice (some ⟨(g 1).1.heap.size, 0, none⟩) 1 1)) (Q1.out) (by kernel_rfl) rfl (fun J hJ => ?_) ?_
          · (go_simp; exact hJ _ _ ⟨rfl, rfl⟩)
          intro J hJ
          go_simp
          refine hJ _ ?_
          clear hJ J
          refine fix4_eff 2 ((.string (strOfNums [c8]))) (Q2.out) (by kernel_rfl) rfl (fun J hJ => ?_) ?_
          · (have hc := HCV.out; go_simp; exact hJ _ _ ⟨rfl, rfl⟩)
          intro J hJ
          go_simp
          refine hJ _ ?_
          clear hJ J
          refine fix4_step ?_ (by kernel_rfl) rfl (fun J s _ _ hJ => ?_) ?_
          rotate_left
          · go_simp
            exact hJ _ rfl
          intro J hJ
          go_simp
          refine hJ _ ?_
          clear hJ J
          refine fix4_eff 0 ((.slice (some ⟨(g 0).1.heap.size, 0, none⟩) n n)) (Q0.out) (by kernel_rfl) rfl (fun J hJ => ?_) ?_
          · (go_simp; exact hJ _ _ ⟨rfl, rfl⟩)
          intro J hJ
          go_simp
          refine hJ _ ?_
          clear hJ J
          refine fix4_eff 3 ((.string (strOfNums (List.replicate n 0)))) (Q3.out) (by kernel_rfl) rfl (fun J hJ => ?_) ?_
          · (have hc := HCX.out; go_simp; exact hJ _ _ ⟨rfl, rfl⟩)
          intro J hJ
          go_simp
          refine hJ _ ?_
          clear hJ J
          refine fix4_eff 4 ((.int .i64 r)) (Q4.out) (by kernel_rfl) rfl (fun J hJ => ?_) ?_
          · (go_simp; go_at_call 9; refine HCON.out.mono ?_; rintro e W1 ⟨rfl, g1, g2⟩; exact hJ _ _ ⟨rfl, fun _ => ⟨g1, g2⟩⟩)
          intro J hJ
          go_simp
          refine hJ _ ?_
          clear hJ J
          refine fix4_step ?_ (by kernel_rfl) rfl (fun J s _ _ hJ => ?_) ?_
          rotate_left
          · go_simp
            exact hJ _ rfl
          intro J hJ
          go_simp
          refine hJ _ ?_
          clear hJ J
          refine fix4_nil ?_
          have hg : g [5, 6, 8, 9, 10].length = g 5 := rfl
          first | rw [hg] | skip
          go_wp2
          go_meet
          case rel => exact ⟨rfl, HFIN.out.1, HFIN.out.2⟩
        rcases List.mem_cons.1 hE with rfl | hE
        · clear hE
          have c0 : (g 1).1 = (g 0).1.alloc (.cells (madeCells #[.int .u8 0] n) 5) ∧ (g 1).2 = .slice (some ⟨(g 0).1.heap.size, 0, none⟩) n n := hC 0 (by decide)
          have b0 : Below (g 0).1.heap.size (g 0).1 (g 1).1 := by rw [c0.1]; exact (Below.refl _ _).alloc (Nat.le_refl _) _
          have c1 : (g 2).1 = (g 1).1.alloc (.cells #[.int .u8 c8] 5) ∧ (g 2).2 = .slice (some ⟨(g 1).1.heap.size, 0, none⟩) 1 1 := hC 1 (by decide)
          have b1 : Below (g 1).1.heap.size (g 1).1 (g 2).1 := by rw [c1.1]; exact (Below.refl _ _).alloc (Nat.le_refl _) _
          have c2 : (g 3).1 = (g 2).1 ∧ (g 3).2 = .string (strOfNums (List.replicate n 0)) := hC 2 (by decide)
          have b2 : Below (g 2).1.heap.size (g 2).1 (g 3).1 := by rw [c2.1]; exact Below.refl _ _
          have c3 : (g 4).1 = (g 3).1 ∧ (g 4).2 = .string (strOfNums [c8]) := hC 3 (by decide)
          have b3 : Below (g 3).1.heap.size (g 3).1 (g 4).1 := by rw [c3.1]; exact Below.refl _ _
          have c4 : (g 5).2 = .int .i64 r ∧ (DiskAt (g 4).1 d m s → DiskAt (g 5).1 d m s' ∧ Touch [d, m] (g 4).1 (g 5).1) := hC 4 (by decide)
          have d0 : DiskAt (g 0).1 d m s := by rw [g0]; exact HDD.out.of_blocks rfl rfl
          have l0 : Below w.heap.size w (g 0).1 := by rw [g0]; exact HB.out.drew
          have d1 := d0.below b0
          have l1 := l0.trans (b0.mono l0.size)
          have d2 := d1.below b1
          have l2 := l1.trans (b1.mono l1.size)
          have d3 := d2.below b2
          have l3 := l2.trans (b2.mono l2.size)
          have d4 := d3.below b3
          have l4 := l3.trans (b3.mono l3.size)
          have hn2 : (g 2).1.heap[(g 1).1.heap.size]? = some (.cells #[.int .u8 c8] 5 (0, 0)) := by rw [c1.1]; exact push_new rfl
          have hn3 := (b2.block _ (lt_of_heap hn2)).trans hn2
          have cvn := conv_one hn3
          have hx1 : (g 1).1.heap[(g 0).1.heap.size]? = some (.cells (madeCells #[.int .u8 0] n) 5 (0, 0)) := by rw [c0.1]; exact push_new rfl
          have hx2 := (b1.block _ (lt_of_heap hx1)).trans hx1
          have cvx := conv_made hx2
          have hcon := HC.out _ d4
          have q0 := c0.2
          have q1 := c1.2
          have q2 := c2.2
          have q3 := c3.2
          have q4 := c4.1
          have hfin := c4.2 d4
          have HFIN := Lib.hid (And.intro hfin.1 (below_touch l4 hfin.2 HD.out HM.out))
          have Q0 := Lib.hid q0
          have Q1 := Lib.hid q1
          have Q2 := Lib.hid q2
          have Q3 := Lib.hid q3
          have Q4 := Lib.hid q4
          have HCV := Lib.hid cvn
          have HCX := Lib.hid cvx
          have HCON := Lib.hid hcon
          clear hC g0 cvn cvx hcon hfin c0 q0 c1 q1 c2 q2 c3 q3 c4 q4 b0 b1 b2 b3 d0 l0 d1 l1 d2 l2 d3 l3 d4 l4 hn2 hn3 hx1 hx2
          refine fix4_step ?_ (by kernel_rfl) rfl (fun J s _ _ hJ => ?_) ?_
          rotate_left
          · go_simp
            exact hJ _ rfl
          intro J hJ
          go_simp
          refine hJ _ ?_
          clear hJ J
          refine fix4_step ?_ (by kernel_rfl) rfl (fun J s _ _ hJ => ?_) ?_
          rotate_left
          · go_simp
            exact hJ _ rfl
          intro J hJ
          go_simp
          refine hJ _ ?_
          clear hJ J
          refine fix4_step ?_ (by kernel_rfl) rfl (fun J s _ _ hJ => ?_) ?_
          rotate_left
          · go_simp
            exact hJ _ rfl
          intro J hJ
          go_simp
          refine hJ _ ?_
          clear hJ J
          refine fix4_step ?_ (by kernel_rfl) rfl (fun J s _ _ hJ => ?_) ?_
          rotate_left
          · go_simp
            exact hJ _ rfl
          intro J hJ
          go_simp
          refine hJ _ ?_
          clear hJ J
          refine fix4_step (.int .u8 c8) (by kernel_rfl) rfl (fun J s _ _ hJ => ?_) ?_
          · go_simp
            exact hJ _ rfl
          intro J hJ
          go_simp
          refine hJ _ ?_
          clear hJ J
          refine fix4_eff 1 ((.slice (some ⟨(g 1).1.heap.size, 0, none⟩) 1 1)) (Q1.out) (by kernel_rfl) rfl (fun J hJ => ?_) ?_
          · (go_simp; exact hJ _ _ ⟨rfl, rfl⟩)
          intro J hJ
          go_simp
          refine hJ _ ?_
          clear hJ J
          refine fix4_eff 3 ((.string (strOfNums [c8]))) (Q3.out) (by kernel_rfl) rfl (fun J hJ => ?_) ?_
          · (have hc := HCV.out; go_simp; exact hJ _ _ ⟨rfl, rfl⟩)
          intro J hJ
          go_simp
          refine hJ _ ?_
          clear hJ J
          refine fix4_step ?_ (by kernel_rfl) rfl (fun J s _ _ hJ => ?_) ?_
          rotate_left
          · go_simp
            exact hJ _ rfl
          intro J hJ
          go_simp
          refine hJ _ ?_
          clear hJ J
          refine fix4_eff 0 ((.slice (some ⟨(g 0).1.heap.size, 0, none⟩) n n)) (Q0.out) (by kernel_rfl) rfl (fun J hJ => ?_) ?_
          · (go_simp; exact hJ _ _ ⟨rfl, rfl⟩)
          intro J hJ
          go_simp
          refine hJ _ ?_
          clear hJ J
          refine fix4_eff 2 ((.string (strOfNums (List.replicate n 0)))) (Q2.out) (by kernel_rfl) rfl (fun J hJ => ?_) ?_
          · (have hc := HCX.out; go_simp; exact hJ _ _ ⟨rfl, rfl⟩)
          intro J hJ
          go_simp
          refine hJ _ ?_
          clear hJ J
          refine fix4_eff 4 ((.int .i64 r)) (Q4.out) (by kernel_rfl) rfl (fun J hJ => ?_) ?_
          · (go_simp; go_at_call 9; refine HCON.out.mono ?_; rintro e W1 ⟨rfl, g1, g2⟩; exact hJ _ _ ⟨rfl, fun _ => ⟨g1, g2⟩⟩)
          intro J hJ
          go_simp
          refine hJ _ ?_
          clear hJ J
          refine fix4_step ?_ (by kernel_rfl) rfl (fun J s _ _ hJ => ?_) ?_
          rotate_left
          · go_simp
            exact hJ _ rfl
          intro J hJ
          go_simp
          refine hJ _ ?_
          clear hJ J
          refine fix4_nil ?_
          have hg : g [5, 6, 8, 9, 10].length = g 5 := rfl
          first | rw [hg] | skip
          go_wp2
          go_meet
          case rel => exact ⟨rfl, HFIN.out.1, HFIN.out.2⟩
        · obtain rfl := List.mem_singleton.1 hE
          clear hE
          have c0 : (g 1).1 = (g 0).1.alloc (.cells (madeCells #[.int .u8 0] n) 5) ∧ (g 1).2 = .slice (some ⟨(g 0).1.heap.size, 0, none⟩) n n := hC 0 (by decide)
          have b0 : Below (g 0).1.heap.size (g 0).1 (g 1).1 := by rw [c0.1]; exact (Below.refl _ _).alloc (Nat.le_refl _) _
          have c1 : (g 2).1 = (g 1).1 ∧ (g 2).2 = .string (strOfNums (List.replicate n 0)) := hC 1 (by decide)
          have b1 : Below (g 1).1.heap.size (g 1).1 (g 2).1 := by rw [c1.1]; exact Below.refl _ _
          have c2 : (g 3).1 = (g 2).1.alloc (.cells #[.int .u8 c8] 5) ∧ (g 3).2 = .slice (some ⟨(g 2).1.heap.size, 0, none⟩) 1 1 := hC 2 (by decide)
          have b2 : Below (g 2).1.heap.size (g 2).1 (g 3).1 := by rw [c2.1]; exact (Below.refl _ _).alloc (Nat.le_refl _) _
          have c3 : (g 4).1 = (g 3).1 ∧ (g 4).2 = .string (strOfNums [c8]) := hC 3 (by decide)
          have b3 : Below (g 3).1.heap.size (g 3).1 (g 4).1 := by rw [c3.1]; exact Below.refl _ _
          have c4 : (g 5).2 = .int .i64 r ∧ (DiskAt (g 4).1 d m s → DiskAt (g 5).1 d m s' ∧ Touch [d, m] (g 4).1 (g 5).1) := hC 4 (by decide)
          have d0 : DiskAt (g 0).1 d m s := by rw [g0]; exact HDD.out.of_blocks rfl rfl
          have l0 : Below w.heap.size w (g 0).1 := by rw [g0]; exact HB.out.drew
          have d1 := d0.below b0
          have l1 := l0.trans (b0.mono l0.size)
          have d2 := d1.below b1
          have l2 := l1.trans (b1.mono l1.size)
          have d3 := d2.below b2
          have l3 := l2.trans (b2.mono l2.size)
          have d4 := d3.below b3
          have l4 := l3.trans (b3.mono l3.size)
          have hn3 : (g 3).1.heap[(g 2).1.heap.size]? = some (.cells #[.int .u8 c8] 5 (0, 0)) := by rw [c2.1]; exact push_new rfl
          have cvn := conv_one hn3
          have hx1 : (g 1).1.heap[(g 0).1.heap.size]? = some (.cells (madeCells #[.int .u8 0] n) 5 (0, 0)) := by rw [c0.1]; exact push_new rfl
          have cvx := conv_made hx1
          have hcon := HC.out _ d4
          have q0 := c0.2
          have q1 := c1.2
          have q2 := c2.2
          have q3 := c3.2
          have q4 := c4.1
          have hfin := c4.2 d4
          have HFIN := Lib.hid (And.intro hfin.1 (below_touch l4 hfin.2 HD.out HM.out))
          have Q0 := Lib.hid q0
          have Q1 := Lib.hid q1
          have Q2 := Lib.hid q2
          have Q3 := Lib.hid q3
          have Q4 := Lib.hid q4
          have HCV := Lib.hid cvn
          have HCX := Lib.hid cvx
          have HCON := Lib.hid hcon
          clear hC g0 cvn cvx hcon hfin c0 q0 c1 q1 c2 q2 c3 q3 c4 q4 b0 b1 b2 b3 d0 l0 d1 l1 d2 l2 d3 l3 d4 l4 hn3 hx1
          refine fix4_step ?_ (by kernel_rfl) rfl (fun J s _ _ hJ => ?_) ?_
          rotate_left
          · go_simp
            exact hJ _ rfl
          intro J hJ
          go_simp
          refine hJ _ ?_
          clear hJ J
          refine fix4_step ?_ (by kernel_rfl) rfl (fun J s _ _ hJ => ?_) ?_
          rotate_left
          · go_simp
            exact hJ _ rfl
          intro J hJ
          go_simp
          refine hJ _ ?_
          clear hJ J
          refine fix4_step ?_ (by kernel_rfl) rfl (fun J s _ _ hJ => ?_) ?_
          rotate_left
          · go_simp
            exact hJ _ rfl
          intro J hJ
          go_simp
          refine hJ _ ?_
          clear hJ J
          refine fix4_step ?_ (by kernel_rfl) rfl (fun J s _ _ hJ => ?_) ?_
          rotate_left
          · go_simp
            exact hJ _ rfl
          intro J hJ
          go_simp
          refine hJ _ ?_
          clear hJ J
          refine fix4_step (.int .u8 c8) (by kernel_rfl) rfl (fun J s _ _ hJ => ?_) ?_
          · go_simp
            exact hJ _ rfl
          intro J hJ
          go_simp
          refine hJ _ ?_
          clear hJ J
          refine fix4_eff 2 ((.slice (some ⟨(g 2).1.heap.size, 0, none⟩) 1 1)) (Q2.out) (by kernel_rfl) rfl (fun J hJ => ?_) ?_
          · (go_simp; exact hJ _ _ ⟨rfl, rfl⟩)
          intro J hJ
          go_simp
          refine hJ _ ?_
          clear hJ J
          refine fix4_eff 3 ((.string (strOfNums [c8]))) (Q3.out) (by kernel_rfl) rfl (fun J hJ => ?_) ?_
          · (have hc := HCV.out; go_simp; exact hJ _ _ ⟨rfl, rfl⟩)
          intro J hJ
          go_simp
          refine hJ _ ?_
          clear hJ J
          refine fix4_step ?_ (by kernel_rfl) rfl (fun J s _ _ hJ => ?_) ?_
          rotate_left
          · go_simp
            exact hJ _ rfl
          intro J hJ
          go_simp
          refine hJ _ ?_
          clear hJ J
          refine fix4_eff 0 ((.slice (some ⟨(g 0).1.heap.size, 0, none⟩) n n)) (Q0.out) (by kernel_rfl) rfl (fun J hJ => ?_) ?_
          · (go_simp; exact hJ _ _ ⟨rfl, rfl⟩)
          intro J hJ
          go_simp
          refine hJ _ ?_
          clear hJ J
          refine fix4_eff 1 ((.string (strOfNums (List.replicate n 0)))) (Q1.out) (by kernel_rfl) rfl (fun J hJ => ?_) ?_
          · (have hc := HCX.out; go_simp; exact hJ _ _ ⟨rfl, rfl⟩)
          intro J hJ
          go_simp
          refine hJ _ ?_
          clear hJ J
          refine fix4_eff 4 ((.int .i64 r)) (Q4.out) (by kernel_rfl) rfl (fun J hJ => ?_) ?_
          · (go_simp; go_at_call 9; refine HCON.out.mono ?_; rintro e W1 ⟨rfl, g1, g2⟩; exact hJ _ _ ⟨rfl, fun _ => ⟨g1, g2⟩⟩)
          intro J hJ
          go_simp
          refine hJ _ ?_
          clear hJ J
          refine fix4_step ?_ (by kernel_rfl) rfl (fun J s _ _ hJ => ?_) ?_
          rotate_left
          · go_simp
            exact hJ _ rfl
          intro J hJ
          go_simp
          refine hJ _ ?_
          clear hJ J
          refine fix4_nil ?_
          have hg : g [5, 6, 8, 9, 10].length = g 5 := rfl
          first | rw [hg] | skip
          go_wp2
          go_meet
          case rel => exact ⟨rfl, HFIN.out.1, HFIN.out.2⟩
        --END
      case rest =>
        obtain ⟨rfl, hD2, hB2⟩ := hcut
        have hu := D_used hD2
        have HD2 := Lib.hid hD2
        have HB2 := Lib.hid hB2
        clear hD2 hB2
        rcases HCASE.out with ⟨rfl, c1, c2⟩ | ⟨rfl, c1, c2⟩
        · rw [hRm] at c1
          rw [c2] at hu
          have HC2 := Lib.hid c2
          have i1 : ¬ ((used s.files : Int) + (n : Int) ≤ R) := by omega
          have i2 : (decide ((used s.files : Int) + (n : Int) ≤ R)) = false := decide_eq_false i1
          clear HCASE c2
          go_wp2_with fail
          go_at_call 10
          with_reducible refine hu.mono ?_
          rintro e w4 ⟨rfl, b4⟩
          have HD4 := Lib.hid (HD2.out.below b4)
          have HB4 := Lib.hid (HB2.out.trans (b4.mono HB2.out.size))
          clear hu b4
          go_wp2
          go_roundw
          case rel => exact ⟨j + 1, s', by go_num, by rw [HC2.out], by omega, by omega, HD4.out, HG'.out, HU'.out, by rw [HR'.out]; exact hRm, HB4.out⟩
          case measure => simp [intOf]; omega
        · rw [hRm] at c1
          have hun : (used s'.files : Int) = (used s.files : Int) + (n : Int) := by omega
          rw [hun] at hu
          have i1 : ((used s.files : Int) + (n : Int) ≤ R) := c1
          clear HCASE c2 c1
          go_wp2_with fail
          go_at_call 10
          with_reducible refine hu.mono ?_
          rintro e w4 ⟨rfl, b4⟩
          have HD4 := Lib.hid (HD2.out.below b4)
          have HB4 := Lib.hid (HB2.out.trans (b4.mono HB2.out.size))
          have HUN := Lib.hid hun
          clear hu b4 hun
          go_wp2
          go_roundw
          case rel => exact ⟨j + 1, s', by go_num, by rw [HUN.out], by omega, by omega, HD4.out, HG'.out, HU'.out, by rw [HR'.out]; exact hRm, HB4.out⟩
          case measure => simp [intOf]; omega
    · have hwhy : ((j : Int) < (sizes.length : Int) ∧ ¬ (j : Int) < 20) ∨ ¬ (j : Int) < (sizes.length : Int) := by omega
      clear hlt hDD hB hU hG
      rcases hwhy with ⟨hw1, hw2⟩ | hw1
      all_goals
        go_wp2_with fail
        go_at_call 8
        with_reducible refine (D_new wr (-1)).mono ?_
        rintro e w5 ⟨d5, m5, rfl, h5, b5, _, _⟩
        have e5 : max 0 (min (-1 : Int) 1073741824) = 0 := by decide
        rw [e5] at h5
        have hrm := D_room h5
        have HB5 := Lib.hid (HB.out.trans (b5.mono HB.out.size))
        clear h5 b5
        go_wp2_with fail
        go_at_call 11
        with_reducible refine hrm.mono ?_
        rintro e w6 ⟨rfl, rfl⟩
        go_wp2
        go_ret
        exact ⟨rfl, HB5.out⟩
end Go.Proofs.Ytakefjdckacgpaa.Cod
