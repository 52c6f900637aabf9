/- DiskKeeps: the walk. -/
import Derived.Test.YtakefjdckacgpaaDkAct
namespace Go.Proofs.Ytakefjdckacgpaa.Cod
open Go.RowKit
def KRel (w : World) (d m : Nat) (n : Nat) (top : Nat) (i : Value) (wr : World) : Prop :=
  ∃ (j : Nat) (s : Dst), i = .int .i64 (j : Int) ∧ j ≤ n ∧ j ≤ top ∧ DiskAt wr d m s ∧ Gd s j ∧ Up s ∧ Below w.heap.size w wr
set_option maxHeartbeats 8000000 in
set_option maxRecDepth 100000 in
theorem W_DiskKeeps (A0 : Option Addr) (cap0 : Nat) (acts : List AV) (A1 : Option Addr) (cap1 : Nat) (cs : List Int) (w : World) (hA : Acts w A0 acts) (hC : RowsAt fi 1 w A1 cs) (hcap : cs.length ≤ cap1) (hmax : cap1 ≤ maxLen) :
    Calls Try.prog 5 #[.slice A0 acts.length cap0, .slice A1 cs.length cap1] w fun e w' => e = .returned (.bool true) ∧ Below w.heap.size w w' := by
  have hal := hA.max
  unfold maxLen at hal
  have HA := Lib.hid hA
  have HC := Lib.hid hC
  have HCM := Lib.hid (And.intro hcap hmax)
  clear hA hC hcap hmax
  go_enter Try.func5, Try.ntmps5
  go_wp2_with fail
  go_at_call 7
  with_reducible refine (D_awake w).mono ?_
  rintro e w1 ⟨rfl, b1⟩
  have B1 := Lib.hid b1
  clear b1
  go_wp2_with fail
  go_at_call 8
  with_reducible refine (D_new w1 4000).mono ?_
  rintro e w2 ⟨d, m, rfl, h2, b2, hd, hm⟩
  have e1 : max 0 (min (4000 : Int) 1073741824) = 4000 := by decide
  rw [e1] at h2
  have B2 := Lib.hid (B1.out.trans (b2.mono B1.out.size))
  have HD := Lib.hid (Nat.le_trans B1.out.size hd)
  have HM := Lib.hid (Nat.le_trans B1.out.size hm)
  have H2 := Lib.hid h2
  clear e1 h2 b2 hd hm
  go_wp2_with fail
  go_loopw [6] (fun i wr => KRel w d m acts.length 30 i wr) (fun i _ => 30 - (intOf i).toNat)
  case atStart => exact ⟨0, _, rfl, by omega, by omega, H2.out, gd_new _, ⟨rfl, rfl⟩, B2.out⟩
  case round =>
    obtain ⟨j, s, rfl, hj, hj30, hD, hG, hU, hB⟩ := hrel
    have hdd : s.deeds ≤ 1000000000 := by have := hG.deeds; omega
    have HG := Lib.hid hG
    have HU := Lib.hid hU
    have HB := Lib.hid hB
    clear hG hU hB
    by_cases hlt : j < acts.length ∧ j < 30
    · obtain ⟨h1, h2⟩ := hlt
      have hj0 : (0 : Int) ≤ (j : Int) := by omega
      have hj1 : (j : Int) < (acts.length : Int) := by omega
      have hj2 : (j : Int) < 30 := by omega
      obtain ⟨ad, rfl, hadl, hcell⟩ := (HA.out.below HB.out).rows j h1
      have q0 := hcell 0 _ rfl
      have q1 := hcell 1 _ rfl
      have q2 := hcell 2 _ rfl
      have q3 := hcell 3 _ rfl
      have q4 := hcell 4 _ rfl
      generalize acts[j] = a at q0 q1 q2 q3 q4 hcell
      simp only [caddr, Nat.reduceAdd] at q0 q1 q2 q3 q4
      have hdo := D_do hD hdd a.k a.n a.nm a.st (.slice a.A a.cs.length a.cap)
      clear hcell hadl hD
      go_wp2_with fail
      go_at_call 12
      with_reducible refine hdo.mono ?_
      rintro e w3 ⟨rfl, h3, t3⟩
      have H3 := Lib.hid h3
      have T3 := Lib.hid t3
      clear h3 t3 hdo q0 q1 q2 q3 q4
      go_wp2
      go_roundw
      case rel => exact ⟨j + 1, _, by go_num, by omega, by omega, H3.out, doR_gd HG.out _ _ _ _, doR_up HU.out _ _ _ _, below_touch HB.out T3.out HD.out HM.out⟩
      case measure => simp [intOf]; omega
    · have hj0 : (0 : Int) ≤ (j : Int) := by omega
      have hok := HG.out.ok (by omega)
      have hwhy : ((j : Int) < (acts.length : Int) ∧ ¬ (j : Int) < 30) ∨ ¬ (j : Int) < (acts.length : Int) := by omega
      have HOK := Lib.hid hok
      have HDD := Lib.hid hD
      have hcl := D_clone hD
      clear hok hlt hD
      rcases hwhy with ⟨hw1, hw2⟩ | hw1
      all_goals
        go_wp2_with fail
        go_at_call 13
        with_reducible refine hcl.mono ?_
        rintro e w3 ⟨c, mc, rfl, hc3, b3, hc, hmc⟩
        have hD3 := HDD.out.below b3
        have hnm := D_names hD3 HOK.out
        have hlt3 := HDD.out.lt
        have hB3 := HB.out.trans (b3.mono HB.out.size)
        have HC3 := Lib.hid hc3
        have HD3 := Lib.hid hD3
        have HB3 := Lib.hid hB3
        have HAP := Lib.hid (show d ∉ [c, mc] ∧ m ∉ [c, mc] by simp; omega)
        have HCC := Lib.hid (And.intro (Nat.le_trans HB.out.size hc) (Nat.le_trans HB.out.size hmc))
        clear hcl hc3 b3 hD3 hB3 hlt3 hc hmc
        go_wp2_with fail
        go_at_call 17
        with_reducible refine hnm.mono ?_
        rintro e w4 ⟨B, cB, rfl, hN4, b4⟩
        have hB4 := HB3.out.trans (b4.mono HB3.out.size)
        have hfw := D_few w4 A1 cap1 cs (HC.out.below hB4 rfl) HCM.out.1 HCM.out.2
        have HN4 := Lib.hid hN4
        have HD4 := Lib.hid (HD3.out.below b4)
        have HC4 := Lib.hid (HC3.out.below b4)
        have HB4 := Lib.hid hB4
        clear hnm hN4 b4 hB4
        obtain ⟨NL, hNL⟩ : ∃ NL, (dnames s.files).length = NL := ⟨_, rfl⟩
        rw [hNL]
        have hNB : NL ≤ 100000 := by rw [← hNL, dnames_length]; exact HOK.out.few
        have HNL := Lib.hid hNL
        clear hNL
        obtain ⟨CL, hCL⟩ : ∃ CL, cs.length = CL := ⟨_, rfl⟩
        rw [hCL] at hfw ⊢
        clear hCL
        go_wp2_with fail
        go_at_call 16
        with_reducible refine hfw.mono ?_
        rintro e w5 ⟨rfl, A2, rfl, hf5⟩
        have hcr := D_crash' HC4.out HOK.out A2 cap1 (cs.take 20) hf5 (Nat.le_trans (by rw [List.length_take]; omega) HCM.out.1) HCM.out.2
        clear hfw hf5
        obtain ⟨C2, hC2⟩ : ∃ C2, (cs.take 20).length = C2 := ⟨_, rfl⟩
        rw [hC2] at hcr ⊢
        clear hC2
        go_wp2_with fail
        go_at_call 15
        with_reducible refine hcr.mono ?_
        rintro e w6 ⟨rfl, hc6, t6⟩
        have hsure := fun k => (HDD.out.fget k).1
        have hkept := fun n => crashGo_kept (dnames s.files) (cs.take 20) s.files n hsure
        have hused := crashGo_used (dnames s.files) (cs.take 20) s.files HDD.out.nodup hsure
        have hkeys := crashGo_keys (dnames s.files) (cs.take 20) s.files
        have hlen := crashGo_length (dnames s.files) (cs.take 20) s.files
        generalize crashGo (dnames s.files) (cs.take 20) s.files = fs at hc6 hkept hused hkeys hlen
        have hok6 : NamesOk fs := HOK.out.crash hkeys
        have hnm6 := D_names hc6 hok6
        have hdn : dnames fs = dnames s.files := dnames_keys hkeys
        simp only [hdn, HNL.out] at hnm6
        have hD6 := HD4.out.touch t6 HAP.out.1 HAP.out.2
        have hR6 := rows_disk HN4.out HC4.out t6
        have HK := Lib.hid hkept
        have HUS := Lib.hid hused
        have HKY := Lib.hid hkeys
        have HD6 := Lib.hid hD6
        have HC6 := Lib.hid hc6
        have HR6 := Lib.hid hR6
        have HB6 := Lib.hid (below_touch HB4.out t6 HCC.out.1 HCC.out.2)
        clear hsure hkept hused hkeys hlen hok6 hdn hcr hc6 hD6 t6 hR6
        go_wp2_with fail
        go_at_call 17
        with_reducible refine hnm6.mono ?_
        rintro e w7 ⟨B7, c7, rfl, hN7, b7⟩
        have hB7 := HB6.out.trans (b7.mono HB6.out.size)
        have HD7 := Lib.hid (HD6.out.below b7)
        have HC7 := Lib.hid (HC6.out.below b7)
        have HR7 := Lib.hid (HR6.out.below b7 rfl)
        have HB7 := Lib.hid hB7
        clear hnm6 b7 hB7 hN7
        go_wp2_with fail
        go_loopw [52] (fun i wr => ∃ j : Nat, i = .int .i64 (j : Int) ∧ j ≤ NL ∧ Below w7.heap.size w7 wr) (fun i _ => NL - (intOf i).toNat)
        case atStart => exact ⟨0, rfl, by omega, Below.refl _ _⟩
        case round =>
          obtain ⟨j2, rfl, hj2, hb⟩ := hrel
          have hD8 := HD7.out.below hb
          have hC8 := HC7.out.below hb
          have HB8 := Lib.hid (HB7.out.trans (hb.mono HB7.out.size))
          have HBB := Lib.hid hb
          have hk0 : (0 : Int) ≤ (j2 : Int) := by omega
          by_cases hl2 : j2 < NL
          · have hk1 : (j2 : Int) < (NL : Int) := by omega
            have hl3 : j2 < (dnames s.files).length := by rw [HNL.out]; exact hl2
            obtain ⟨ad2, rfl, hadl2, hcell2⟩ := (HR7.out.below hb rfl) j2 hl3
            have p0 := hcell2 0 _ rfl
            have hmem2 := List.getElem_mem (l := dnames s.files) (n := j2) hl3
            generalize (dnames s.files)[j2] = n at p0 hmem2 hcell2
            simp only [caddr, Nat.mul_one] at p0
            have hmem := mem_dnames hmem2
            have hkk := (HK.out n).1
            have hkz := (HK.out n).2 hmem2
            have hf8 := hD8.fget n
            have hrm := hD8.room.2
            obtain ⟨X, eX⟩ : ∃ X, fget s.files n = X := ⟨_, rfl⟩
            obtain ⟨Y, eY⟩ : ∃ Y, fget fs n = Y := ⟨_, rfl⟩
            rw [eX, eY] at hkk
            rw [eX] at hf8
            rw [eY] at hkz
            obtain ⟨ct, sr⟩ := X
            obtain ⟨now, sn⟩ := Y
            have hr1 : ∀ W, Below w7.heap.size w7 W → Calls Try.prog 19 #[ptr d, .string n] W fun e w' => e = .returned (.tuple #[.string ct, .int .i64 0]) ∧ Below W.heap.size W w' := fun W hW => by
              have := D_read (HD7.out.below hW) n
              rw [readR_some HU.out.down hmem, eX] at this
              exact this
            have hr2 : ∀ W, Below w7.heap.size w7 W → Calls Try.prog 19 #[ptr c, .string n] W fun e w' => e = .returned (.tuple #[.string now, .int .i64 0]) ∧ Below W.heap.size W w' := fun W hW => by
              have := D_read (HC7.out.below hW) n
              rw [readR_some rfl (by rw [ffind_isSome_keys HKY.out]; exact hmem), eY] at this
              exact this
            have hl1 : ∀ W, Below w7.heap.size w7 W → Calls Try.prog 20 #[ptr d, .string n] W fun e w' => e = .returned (.int .i64 ((ct.size : Int) - (sr : Int))) ∧ Below W.heap.size W w' := fun W hW => by
              have := D_loose (HD7.out.below hW) n
              rw [eX] at this
              exact this
            obtain ⟨k1, k2, k3, k4⟩ := hkk
            simp only at k1 k2 k3 k4 hkz hf8
            have hl4 : ∀ W, Below w7.heap.size w7 W → Calls Try.prog 20 #[ptr c, .string n] W fun e w' => e = .returned (.int .i64 0) ∧ Below W.heap.size W w' := fun W hW => by
              have := D_loose (HC7.out.below hW) n
              simp only [eY] at this
              rw [show (now.size : Int) - (sn : Int) = 0 by omega] at this
              exact this
            have hcmp : (now.toList == (ct.extract 0 now.size).toList) = true := by rw [← k1]; simp
            have i0 : (ct.size : Int) ≤ 1073741824 := by omega
            have i1 : (now.size : Int) ≤ (ct.size : Int) := by omega
            have i2 : ¬ ((ct.size : Int) < (now.size : Int)) := by omega
            have i3 : ¬ ((now.size : Int) < (ct.size : Int) - ((ct.size : Int) - (sr : Int))) := by omega
            have i4 : (0 : Int) ≤ (sr : Int) ∧ (sr : Int) ≤ (ct.size : Int) := by omega
            have HR1 := Lib.hid hr1
            have HR2 := Lib.hid hr2
            have HL1 := Lib.hid hl1
            have HL4 := Lib.hid hl4
            clear hcell2 hadl2 hmem hmem2 hD8 hC8 hf8 hrm k1 k2 k3 k4 hkz hb eX eY hr1 hr2 hl1 hl4 hl3
            go_wp2_with fail
            go_at_call 19
            with_reducible refine (HR1.out _ HBB.out).mono ?_
            rintro e w8 ⟨rfl, b8⟩
            have HB9 := Lib.hid (HBB.out.trans (b8.mono HBB.out.size))
            clear b8
            go_wp2_with fail
            go_at_call 19
            with_reducible refine (HR2.out _ HB9.out).mono ?_
            rintro e w9 ⟨rfl, b9⟩
            have HB10 := Lib.hid (HB9.out.trans (b9.mono HB9.out.size))
            clear b9
            go_wp2_with fail
            go_at_call 20
            with_reducible refine (HL1.out _ HB10.out).mono ?_
            rintro e w10 ⟨rfl, b10⟩
            have HB11 := Lib.hid (HB10.out.trans (b10.mono HB10.out.size))
            clear b10
            go_wp2_with fail
            go_at_call 20
            with_reducible refine (HL4.out _ HB11.out).mono ?_
            rintro e w11 ⟨rfl, b11⟩
            have HB12 := Lib.hid (HB11.out.trans (b11.mono HB11.out.size))
            clear b11
            go_wp2
            go_roundw
            case rel => exact ⟨j2 + 1, by go_num, by omega, HB12.out⟩
            case measure => simp [intOf]; omega
          · obtain rfl : j2 = NL := by omega
            have hu1 := D_used hC8
            have hu2 : ∀ W, Below wr.heap.size wr W → Calls Try.prog 10 #[ptr d] W fun e w' => e = .returned (.int .i64 (used s.files)) ∧ Below W.heap.size W w' := fun W hW => D_used (hD8.below hW)
            have hus := HUS.out
            simp only at hu1
            have i1 : (used fs : Int) ≤ (used s.files : Int) := by omega
            have HU2 := Lib.hid hu2
            clear hus hD8 hC8 hu2 hb
            go_wp2_with fail
            go_at_call 10
            with_reducible refine hu1.mono ?_
            rintro e w8 ⟨rfl, b8⟩
            have HB9 := Lib.hid (HB8.out.trans (b8.mono HB8.out.size))
            have hu3 := HU2.out _ b8
            clear b8 hu1
            go_wp2_with fail
            go_at_call 10
            with_reducible refine hu3.mono ?_
            rintro e w9 ⟨rfl, b9⟩
            have HB10 := Lib.hid (HB9.out.trans (b9.mono HB9.out.size))
            clear b9 hu3
            go_wp2
            go_ret
            exact ⟨rfl, HB10.out⟩
end Go.Proofs.Ytakefjdckacgpaa.Cod
