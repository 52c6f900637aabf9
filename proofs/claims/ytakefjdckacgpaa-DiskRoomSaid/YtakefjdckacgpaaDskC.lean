/- disk: Crash, by the names' row; Clone. -/
import Derived.Test.YtakefjdckacgpaaDskP
import Derived.Test.YtakefjdckacgpaaRowS
import Derived.Deep.QuietTactic
import Derived.BigQuiet
import Derived.Deep.CutRange
import Derived.Test.YtakefjdckacgpaaOpenRows
namespace Go.Proofs.Ytakefjdckacgpaa.Cod
open Go.RowKit
/-- how much stays, and what of the choices is left -/
def keepC (cs : List Int) (loose : Nat) : Nat := match cs with
  | [] => 0
  | c :: _ => (max 0 (min c (loose : Int))).toNat
/-- what a crash leaves of the files, name by name -/
def crashGo : List ByteArray → List Int → List Fl → List Fl
  | [], _, fs => fs
  | n :: ns, cs, fs => if (fget fs n).1.size = (fget fs n).2 then crashGo ns cs fs else crashGo ns cs.tail (fput fs n ((fget fs n).1.extract 0 ((fget fs n).2 + keepC cs ((fget fs n).1.size - (fget fs n).2)), (fget fs n).2 + keepC cs ((fget fs n).1.size - (fget fs n).2)))
def ints (l : List Int) : List Value := l.map (.int .i64 ·)
abbrev fi : Int → List Value := fun c => [.int .i64 c]
abbrev fn : ByteArray → List Value := fun n => [.string n]
theorem cell_ne_map {w : World} {m : Nat} {l : List KV} {a : Addr} {v : Value} (h : MapAt w m l) (hc : w.cell? a = some v) : a.block ≠ m := fun e => by
  obtain ⟨es, c, h0, _⟩ := h
  unfold World.cell? at hc
  rw [e, h0] at hc
  simp at hc
theorem rows_touch {α : Type} {f : α → List Value} {n : Nat} {w w1 : World} {A : Option Addr} {l : List α} {m : Nat} {L : List KV} (h : RowsAt f n w A l) (hn : ∀ a ∈ l, 0 < (f a).length) (hm : MapAt w m L) (t : Touch [m] w w1) : RowsAt f n w1 A l := by
  intro i hi
  obtain ⟨ad, rfl, hl, hc⟩ := h i hi
  have h0 := hn l[i] (List.getElem_mem hi)
  have h1 := cell_ne_map hm (hc 0 _ (List.getElem?_eq_getElem h0))
  rw [caddr_block, rblock] at h1
  exact (h.of_block (t.block _ hl (by simpa using h1)) t.size) i hi
theorem keepC_le (cs : List Int) (loose : Nat) : keepC cs loose ≤ loose := by
  unfold keepC
  split <;> omega
theorem crashGo_none {n : ByteArray} {ns : List ByteArray} {cs : List Int} {fs : List Fl} (h : (fget fs n).1.size = (fget fs n).2) : crashGo (n :: ns) cs fs = crashGo ns cs fs := by
  simp only [crashGo, if_pos h]
theorem crashGo_some {n : ByteArray} {ns : List ByteArray} {cs : List Int} {fs : List Fl} (h : ¬ (fget fs n).1.size = (fget fs n).2) :
    crashGo (n :: ns) cs fs = crashGo ns cs.tail (fput fs n ((fget fs n).1.extract 0 ((fget fs n).2 + keepC cs ((fget fs n).1.size - (fget fs n).2)), (fget fs n).2 + keepC cs ((fget fs n).1.size - (fget fs n).2))) := by
  simp only [crashGo, if_neg h]
structure CrashAt (w0 wr : World) (d m : Nat) (s : Dst) (ns : List ByteArray) (r : List Fl) (j : Nat) (cs : List Int) (fs : List Fl) : Prop where
  disk : DiskAt wr d m { s with files := fs }
  res : crashGo (ns.drop j) cs fs = r
  touch : Touch [m] w0 wr
def CrashRel (w0 : World) (d m : Nat) (s : Dst) (ns : List ByteArray) (r : List Fl) (c i : Value) (wr : World) : Prop :=
  ∃ (j : Nat) (cs : List Int) (fs : List Fl) (A : Option Addr) (cap : Nat), j ≤ ns.length ∧ i = .int .i64 j ∧ c = .slice A cs.length cap ∧ RowsAt fi 1 w0 A cs ∧ cs.length ≤ cap ∧ cap ≤ maxLen ∧ CrashAt w0 wr d m s ns r j cs fs
set_option maxHeartbeats 8000000 in
set_option maxRecDepth 100000 in
theorem D_crash {w : World} {d m : Nat} {s : Dst} (h : DiskAt w d m s) (A : Option Addr) (cap : Nat) (cs : List Int) (hcs : RowsAt fi 1 w A cs) (hcap : cs.length ≤ cap) (hmax : cap ≤ maxLen) (ns : List ByteArray) (hns : ns.length ≤ 100000)
    (hN : Calls Try.prog 17 #[ptr d] w fun e w' => ∃ B c', e = .returned (.slice B ns.length c') ∧ RowsAt fn 1 w' B ns ∧ Below w.heap.size w w') :
    Calls Try.prog 15 #[ptr d, .slice A cs.length cap] w fun e w' => e = .returned (.tuple #[]) ∧ DiskAt w' d m { s with files := crashGo ns cs s.files, halt := -1, down := false } ∧ Touch [d, m] w w' := by
  unfold maxLen at hmax
  have H := Lib.hid h
  have HCS := Lib.hid hcs
  clear h hcs
  go_enter Try.func15, Try.ntmps15
  go_wp2_with fail
  go_at_call 17
  with_reducible refine hN.mono ?_
  rintro e w0 ⟨B, c', rfl, hNs, b0⟩
  have h0 := H.out.below b0
  have hA0 : RowsAt fi 1 w0 A cs := HCS.out.below b0 rfl
  have HB0 := Lib.hid b0
  have H0 := Lib.hid h0
  have HA0 := Lib.hid hA0
  have HNS := Lib.hid hNs
  clear hN b0 h0 hA0 hNs
  go_wp2_with fail
  go_loopw [1, 12] (fun c i wr => CrashRel w0 d m s ns (crashGo ns cs s.files) c i wr) (fun _ i _ => ns.length - (intOf i).toNat)
  case atStart => exact ⟨0, cs, s.files, A, cap, by omega, rfl, rfl, HA0.out, hcap, by unfold maxLen; exact hmax, H0.out, rfl, .refl _ _⟩
  case round =>
    obtain ⟨j, cs1, fs, A1, cap1, hj, rfl, rfl, hr1, hc1, hm1, hC⟩ := hrel
    clear hcap hmax
    unfold maxLen at hm1
    by_cases hlt : j < ns.length
    · have hj0 : (0 : Int) ≤ (j : Int) := by omega
      have hj1 : (j : Int) < (ns.length : Int) := by omega
      have hrow := rows_touch HNS.out (fun _ _ => by simp [fn]) H0.out.map hC.touch
      obtain ⟨ad, rfl, hadl, hcell⟩ := hrow j hlt
      have q0 := hcell 0 _ rfl
      have hdr : ns.drop j = ns[j] :: ns.drop (j + 1) := List.drop_eq_getElem_cons hlt
      generalize ns[j] = n at q0 hdr hcell
      simp only [caddr, Nat.mul_one] at q0
      have hD := hC.disk
      have hlk := flook hD.map n false
      simp only [Bool.false_eq_true, if_false] at hlk
      have hfg := hD.fget n
      have hroom := hD.room.2
      have e0 : (ffind fs n).getD (ByteArray.empty, 0) = fget fs n := rfl
      rw [e0] at hlk
      obtain ⟨f, hf⟩ : ∃ f, fget fs n = f := ⟨_, rfl⟩
      rw [hf] at hlk hfg
      obtain ⟨ct, sr⟩ := f
      unfold fval at hlk
      simp only at hlk hfg hroom
      have c0 := cell_of_row _ _ 0 _ _ _ hD.cell
      have hdl := hD.lt.1
      have hba : Below wr.heap.size wr (wr.alloc (.cells #[.string ct, .int .i64 (sr : Int)] FLT)) := (Below.refl _ _).alloc (Nat.le_refl _) _
      have HBA := Lib.hid hba
      have HC := Lib.hid hC
      have HF := Lib.hid hf
      have HDR := Lib.hid hdr
      have HR1 := Lib.hid hr1
      have b1 : (ct.size : Int) ≤ 1073741824 := by omega
      have b2 : (sr : Int) ≤ (ct.size : Int) := by omega
      have b3 : sr ≤ ct.size := hfg.1
      clear hrow hcell hdr hD e0 hf hfg hroom hba hC hr1
      obtain ⟨L, hL⟩ : ∃ L, cs1.length = L := ⟨_, rfl⟩
      rw [hL] at hc1 ⊢
      have HL := Lib.hid hL
      clear hL
      by_cases heq : ct.size = sr
      · have hz : (ct.size : Int) - (sr : Int) = 0 := by omega
        have hz2 : ((ct.size : Int) - (sr : Int) == 0) = true := by simp [hz]
        have HEQ := Lib.hid heq
        have hfin : CrashRel w0 d m s ns (crashGo ns cs s.files) (.slice A1 L cap1) (.int .i64 ((j + 1 : Nat) : Int)) (wr.alloc (.cells #[.string ct, .int .i64 (sr : Int)] FLT)) := by
          refine ⟨j + 1, cs1, fs, A1, cap1, by omega, rfl, by rw [HL.out], HR1.out, by rw [HL.out]; exact hc1, by unfold maxLen; exact hm1, HC.out.disk.below HBA.out, ?_, HC.out.touch.trans (.of_below HBA.out)⟩
          have := HC.out.res
          rw [HDR.out, crashGo_none (by rw [HF.out]; exact heq)] at this
          exact this
        have HFIN := Lib.hid hfin
        clear hz hfin heq
        go_wp2
        go_roundw
        case rel =>
          have := HFIN.out
          push_cast at this
          exact this
        case measure => simp [intOf]; omega
      · have hz2 : ((ct.size : Int) - (sr : Int) == 0) = false := by
          have : ¬ ((ct.size : Int) - (sr : Int) = 0) := by omega
          simp [this]
        have HEQ := Lib.hid heq
        clear heq
        go_upto_if 32 with (fail)
        go_cut [1, 8] from 13 to 58 (fun cv nv wx => ∃ (A2 : Option Addr) (cap2 nq : Nat), cv = .slice A2 cs1.tail.length cap2 ∧ nv = .int .i64 (keepC cs1 (ct.size - sr) : Int) ∧ RowsAt fi 1 w0 A2 cs1.tail ∧ cs1.tail.length ≤ cap2 ∧ cap2 ≤ maxLen ∧ wx = (wr.alloc (.cells #[.string ct, .int .i64 (sr : Int)] FLT)).drewN nq)
        case first =>
          rcases cs1 with _ | ⟨c, cs2⟩
          · obtain rfl : L = 0 := HL.out.symm
            have hl0 : ¬ (0 : Int) < ((0 : Nat) : Int) := by omega
            go_wp2
            go_meet
            case rel => exact ⟨A1, cap1, 0, rfl, rfl, rows_nil _ _, by simp, by unfold maxLen; exact hm1, rfl⟩
          · obtain ⟨ad, rfl, hadl, hcell⟩ := ((rows_touch HR1.out (fun _ _ => by simp [fi]) H0.out.map HC.out.touch).below HBA.out rfl) 0 (by simp)
            have q8 : (wr.alloc (.cells #[.string ct, .int .i64 (sr : Int)] FLT)).cell? ad = some (.int .i64 c) := hcell 0 _ rfl
            have hLe : L = cs2.length + 1 := HL.out.symm
            have HLE := Lib.hid hLe
            have hl0 : (0 : Int) < (L : Int) := by omega
            have hl1 : (1 : Int) ≤ (L : Int) := by omega
            have hl2 : (1 : Int) ≤ (cap1 : Int) := by omega
            clear hcell hLe
            have hk : (if 0 < (if (ct.size : Int) - (sr : Int) < c then (ct.size : Int) - (sr : Int) else c) then (if (ct.size : Int) - (sr : Int) < c then (ct.size : Int) - (sr : Int) else c) else 0) = (keepC (c :: cs2) (ct.size - sr) : Int) := by
              have e1 : keepC (c :: cs2) (ct.size - sr) = (max 0 (min c (((ct.size - sr : Nat) : Int)))).toNat := rfl
              rw [e1]
              by_cases h1 : (ct.size : Int) - (sr : Int) < c
              · rw [if_pos h1]
                by_cases h2 : 0 < (ct.size : Int) - (sr : Int)
                · rw [if_pos h2]; omega
                · rw [if_neg h2]; omega
              · rw [if_neg h1]
                by_cases h2 : 0 < c
                · rw [if_pos h2]; omega
                · rw [if_neg h2]; omega
            have HK := Lib.hid hk
            have hrow : ∀ A3, (2 ≤ cap1 → A3 = some (ad.add 1)) → RowsAt fi 1 w0 A3 cs2 := fun A3 hA i hi => by
              obtain ⟨ad', e', h1, h2⟩ := HR1.out (i + 1) (by simp; omega)
              obtain rfl : ad = ad' := by injection e'
              have hLL := HLE.out
              refine ⟨ad.add 1, hA (by omega), by rw [rblock]; exact h1, fun jj v hv => ?_⟩
              have := h2 jj v (by simpa using hv)
              rw [radd_add, Nat.mul_one, Nat.add_comm 1 i]
              rw [Nat.mul_one] at this
              exact this
            have HROW := Lib.hid hrow
            clear hk hrow
            go_wp2_with fail
            go_quiet (fail)
            rw [HK.out]
            by_cases hcap1 : cap1 = 1
            · rw [if_pos hcap1]
              have HC1 := Lib.hid hcap1
              clear hcap1
              go_wp2
              all_goals
                go_meet
                case rel =>
                  have hLL := HLE.out
                  exact ⟨_, _, _, by rw [HLE.out]; rfl, rfl, HROW.out _ (fun h => by have := HC1.out; omega), by simp; omega, by unfold maxLen; omega, rfl⟩
            · rw [if_neg hcap1]
              go_wp2
              all_goals
                go_meet
                case rel =>
                  have hLL := HLE.out
                  exact ⟨_, _, _, by rw [HLE.out]; rfl, rfl, HROW.out _ (fun _ => rfl), by simp; omega, by unfold maxLen; omega, rfl⟩
        case rest =>
          obtain ⟨A2, cap2, nq, rfl, rfl, hr2, hc2, hm2, hwc⟩ := hcut
          obtain ⟨L2, hL2⟩ : ∃ L2, cs1.tail.length = L2 := ⟨_, rfl⟩
          rw [hL2] at hc2 ⊢
          have HL2 := Lib.hid hL2
          clear hL2
          obtain ⟨k, hk⟩ : ∃ k, keepC cs1 (ct.size - sr) = k := ⟨_, rfl⟩
          have hkle : k ≤ ct.size - sr := by rw [← hk]; exact keepC_le _ _
          rw [hk]
          have HKK := Lib.hid hk
          clear hk
          obtain ⟨W9, hW9⟩ : ∃ W, W = wc := ⟨_, rfl⟩
          have hd9 : DiskAt W9 d m { s with files := fs } := by rw [hW9, hwc]; exact (HC.out.disk.below HBA.out).of_blocks rfl rfl
          have hbx9 : W9.heap[wr.heap.size]? = some (.cells #[.string ct, .int .i64 (sr : Int)] FLT (0, 0)) := by rw [hW9, hwc]; exact push_new rfl
          have ht9 : Touch [m] w0 W9 := by rw [hW9, hwc]; exact (HC.out.touch.trans (.of_below HBA.out)).trans ⟨rfl, rfl, rfl, Nat.le_refl _, fun _ _ _ => rfl⟩
          rw [← hW9]
          have hu9 : (used (fput fs n (ct.extract 0 (sr + k), sr + k)) : Int) ≤ s.room := by
            have h1 : used (fput fs n (ct.extract 0 (sr + k), sr + k)) + (fget fs n).1.size = used fs + (ct.extract 0 (sr + k)).size := used_put' hd9.nodup n (ct.extract 0 (sr + k), sr + k)
            have h2 : (fget fs n).1.size = ct.size := by rw [HF.out]
            have h3 : (Cod.used fs : Int) ≤ s.room := hd9.used
            have h4 : (ct.extract 0 (sr + k)).size ≤ ct.size := by simp; omega
            omega
          obtain ⟨o, hmu, hD9⟩ := disk_put (hd9.of_blocks (w' := W9.drew) rfl rfl) n (ct.extract 0 (sr + k), sr + k) (by simp; omega) hu9
          have HMU := Lib.hid hmu
          have HDD := Lib.hid hD9
          have HD9 := Lib.hid hd9
          have HBX9 := Lib.hid hbx9
          have HT9 := Lib.hid ht9
          have HR2 := Lib.hid hr2
          have HC2 := Lib.hid hc2
          have HM2 := Lib.hid hm2
          clear hmu hD9 hu9 hd9 hbx9 ht9 hr2 hc2 hm2 hwc hW9
          go_upto_region 9 with (fail)
          refine region_fix3 [17] (fun _ _ _ => undef) (fun _ W W' => W' = { W with heap := W.heap.setIfInBounds m o }) (by kernel_rfl) (by kernel_rfl) (fun _ W => ⟨_, rfl⟩) fun g g0 hG => ?_
          have e0 : g 1 = { g 0 with heap := (g 0).heap.setIfInBounds m o } := hG 0 (by decide)
          have hmu0 : (Instr.mapUpdate DMT (.map (some m)) (.string n) (.agg #[.string (ct.extract 0 (sr + k)), .int .i64 ((sr : Int) + (k : Int))])).run Try.prog (g 0) = .ok () { g 0 with heap := (g 0).heap.setIfInBounds m o } := by
            rw [g0]
            have h := HMU.out
            unfold fval at h
            push_cast at h
            exact h
          have q4 : (g 0).cell? ⟨wr.heap.size, 0, none⟩ = some (.string ct) := by rw [g0, show W9.drew.cell? ⟨wr.heap.size, 0, none⟩ = W9.cell? ⟨wr.heap.size, 0, none⟩ from rfl, cell_of_row _ _ _ _ _ _ HBX9.out]; rfl
          have q5 : (g 0).cell? ⟨wr.heap.size, 1, none⟩ = some (.int .i64 (sr : Int)) := by rw [g0, show W9.drew.cell? ⟨wr.heap.size, 1, none⟩ = W9.cell? ⟨wr.heap.size, 1, none⟩ from rfl, cell_of_row _ _ _ _ _ _ HBX9.out]; rfl
          have q6 : (g 0).cell? ⟨d, 0, none⟩ = some (.map (some m)) := by rw [g0, show W9.drew.cell? ⟨d, 0, none⟩ = W9.cell? ⟨d, 0, none⟩ from rfl, cell_of_row _ _ _ _ _ _ HD9.out.cell]; rfl
          have Q4 := Lib.hid q4
          have Q5 := Lib.hid q5
          have Q6 := Lib.hid q6
          have G0 := Lib.hid g0
          have E0 := Lib.hid e0
          have HM := Lib.hid hmu0
          clear hG g0 e0 hmu0 q4 q5 q6
          have hw1 : IntKind.i64.wrap ((sr : Int) + (k : Int)) = (sr : Int) + (k : Int) := IntWalk.i64_in _ (by omega)
          have hb1 : (sr : Int) + (k : Int) ≤ (ct.size : Int) := by omega
          have hb2 : (0 : Int) ≤ (sr : Int) + (k : Int) := by omega
          have hb3 : ((sr : Int) + (k : Int)).toNat = sr + k := by omega
          refine fix3_step ?_ (by kernel_rfl) rfl (fun J s _ _ hJ => ?_) ?_
          rotate_left
          · go_simp
            exact hJ _ rfl
          intro J hJ
          go_simp
          refine hJ _ ?_
          clear hJ J
          refine fix3_step ?_ (by kernel_rfl) rfl (fun J s _ _ hJ => ?_) ?_
          rotate_left
          · go_simp
            exact hJ _ rfl
          intro J hJ
          go_simp
          refine hJ _ ?_
          clear hJ J
          refine fix3_step ?_ (by kernel_rfl) rfl (fun J s _ _ hJ => ?_) ?_
          rotate_left
          · go_simp
            exact hJ _ rfl
          intro J hJ
          go_simp
          refine hJ _ ?_
          clear hJ J
          refine fix3_mid ?_ 0 0 (by kernel_rfl) rfl (fun J s hl hs hJ => ?_) ?_
          rotate_left
          · obtain rfl : s = 0 := (by omega); have hc := Q6.out
            go_simp
            exact hJ _ rfl
          intro J hJ
          go_simp
          refine hJ _ ?_
          clear hJ J
          refine fix3_step ?_ (by kernel_rfl) rfl (fun J s _ _ hJ => ?_) ?_
          rotate_left
          · go_simp
            exact hJ _ rfl
          intro J hJ
          go_simp
          refine hJ _ ?_
          clear hJ J
          refine fix3_step ?_ (by kernel_rfl) rfl (fun J s _ _ hJ => ?_) ?_
          rotate_left
          · go_simp
            exact hJ _ rfl
          intro J hJ
          go_simp
          refine hJ _ ?_
          clear hJ J
          refine fix3_mid ?_ 0 0 (by kernel_rfl) rfl (fun J s hl hs hJ => ?_) ?_
          rotate_left
          · obtain rfl : s = 0 := (by omega); have hc := Q4.out
            go_simp
            exact hJ _ rfl
          intro J hJ
          go_simp
          refine hJ _ ?_
          clear hJ J
          refine fix3_step ?_ (by kernel_rfl) rfl (fun J s _ _ hJ => ?_) ?_
          rotate_left
          · go_simp
            exact hJ _ rfl
          intro J hJ
          go_simp
          refine hJ _ ?_
          clear hJ J
          refine fix3_mid ?_ 0 0 (by kernel_rfl) rfl (fun J s hl hs hJ => ?_) ?_
          rotate_left
          · obtain rfl : s = 0 := (by omega); have hc := Q5.out
            go_simp
            exact hJ _ rfl
          intro J hJ
          go_simp
          refine hJ _ ?_
          clear hJ J
          refine fix3_step ?_ (by kernel_rfl) rfl (fun J s _ _ hJ => ?_) ?_
          rotate_left
          · go_simp
            exact hJ _ rfl
          intro J hJ
          go_simp
          refine hJ _ ?_
          clear hJ J
          refine fix3_step ?_ (by kernel_rfl) rfl (fun J s _ _ hJ => ?_) ?_
          rotate_left
          · go_simp
            exact hJ _ rfl
          intro J hJ
          go_simp
          refine hJ _ ?_
          clear hJ J
          refine fix3_step ?_ (by kernel_rfl) rfl (fun J s _ _ hJ => ?_) ?_
          rotate_left
          · go_simp
            exact hJ _ rfl
          intro J hJ
          go_simp
          refine hJ _ ?_
          clear hJ J
          refine fix3_step ?_ (by kernel_rfl) rfl (fun J s _ _ hJ => ?_) ?_
          rotate_left
          · go_simp
            exact hJ _ rfl
          intro J hJ
          go_simp
          refine hJ _ ?_
          clear hJ J
          refine fix3_mid ?_ 0 0 (by kernel_rfl) rfl (fun J s hl hs hJ => ?_) ?_
          rotate_left
          · obtain rfl : s = 0 := (by omega); have hc := Q5.out
            go_simp
            exact hJ _ rfl
          intro J hJ
          go_simp
          refine hJ _ ?_
          clear hJ J
          refine fix3_step ?_ (by kernel_rfl) rfl (fun J s _ _ hJ => ?_) ?_
          rotate_left
          · go_simp
            exact hJ _ rfl
          intro J hJ
          go_simp
          refine hJ _ ?_
          clear hJ J
          refine fix3_step ?_ (by kernel_rfl) rfl (fun J s _ _ hJ => ?_) ?_
          rotate_left
          · go_simp
            exact hJ _ rfl
          intro J hJ
          go_simp
          refine hJ _ ?_
          clear hJ J
          refine fix3_step ?_ (by kernel_rfl) rfl (fun J s _ _ hJ => ?_) ?_
          rotate_left
          · go_simp
            exact hJ _ rfl
          intro J hJ
          go_simp
          refine hJ _ ?_
          clear hJ J
          refine fix3_eff 0 (undef) (rfl) (by kernel_rfl) rfl (fun J hJ => ?_) ?_
          · (have hd := HM.out; go_simp; exact hJ _ rfl)
          intro J hJ
          go_simp
          refine hJ _ ?_
          clear hJ J
          refine fix3_nil ?_
          have hg : g [17].length = g 1 := rfl
          rw [hg]
          have hfin : CrashRel w0 d m s ns (crashGo ns cs s.files) (.slice A2 L2 cap2) (.int .i64 ((j + 1 : Nat) : Int)) (g 1) := by
            rw [E0.out, G0.out]
            refine ⟨j + 1, cs1.tail, _, A2, cap2, by omega, rfl, by rw [HL2.out], HR2.out, by rw [HL2.out]; exact HC2.out, HM2.out, HDD.out, ?_, (HT9.out.drew).setBlock (.inl (by simp)) o⟩
            have := HC.out.res
            rw [HDR.out, crashGo_some (by rw [HF.out]; exact HEQ.out), HF.out] at this
            simp only at this
            rw [HKK.out] at this
            exact this
          have HFIN := Lib.hid hfin
          clear hfin hg E0 G0 HM hw1 hb1 hb2 hb3
          go_wp2
          go_roundw
          case rel =>
            have := HFIN.out
            push_cast at this
            exact this
          case measure => simp [intOf]; omega
    · obtain rfl : j = ns.length := by omega
      have hC2 := hC.res
      rw [List.drop_length] at hC2
      have hC3 : fs = crashGo ns cs s.files := hC2
      have hD := hC.disk
      rw [hC3] at hD
      have c3 := cell_of_row _ _ 3 _ _ _ hD.cell
      have c4 := cell_of_row _ _ 4 _ _ _ hD.cell
      have z3 := frozen_of_row _ _ 3 _ _ hD.cell
      have z4 := frozen_of_row _ _ 4 _ _ hD.cell
      have HT := Lib.hid ((Touch.of_below (S := [d, m]) HB0.out).trans (hC.touch.mono (by simp)))
      have hfin : DiskAt ((wr.setCell ⟨d, 3, none⟩ (.int .i64 (-1))).setCell ⟨d, 4, none⟩ (.bool false)) d m { s with files := crashGo ns cs s.files, halt := -1, down := false } :=
        hD.set (room := s.room) (deeds := s.deeds) ((set_cell (set_cell hD.cell _) _).trans rfl) ((Below.heap_setCell _ ⟨d, 4, none⟩ _ m hD.lt.2.2.symm).trans (Below.heap_setCell _ ⟨d, 3, none⟩ _ m hD.lt.2.2.symm)) hD.room hD.used hD.deeds (by simp)
      have HF := Lib.hid hfin
      clear hC2 hC3 hD hC hfin hr1 hlt
      go_wp2
      go_end0
      exact ⟨rfl, HF.out, (HT.out.setCell (.inl (by simp)) _).setCell (.inl (by simp)) _⟩
end Go.Proofs.Ytakefjdckacgpaa.Cod
