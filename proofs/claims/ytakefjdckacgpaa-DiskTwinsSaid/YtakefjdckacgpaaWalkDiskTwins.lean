/- DiskTwins: the walk. -/
import Derived.Test.YtakefjdckacgpaaDkAct
import Derived.Deep.CutRange
import Derived.Deep.CutBlock
namespace Go.Proofs.Ytakefjdckacgpaa.Cod
open Go.RowKit
def KRel2 (w : World) (d m : Nat) (n : Nat) (top : Nat) (i : Value) (wr : World) : Prop :=
  ∃ (j : Nat) (s : Dst), i = .int .i64 (j : Int) ∧ j ≤ n ∧ j ≤ top ∧ DiskAt wr d m s ∧ Gd s j ∧ Below w.heap.size w wr
def crR (s : Dst) (cs : List Int) : Dst := { s with files := crashGo (dnames s.files) cs s.files, halt := -1, down := false }
theorem crR_gd {s : Dst} {k : Nat} (h : Gd s k) (cs : List Int) : Gd (crR s cs) k := by
  have hk := crashGo_keys (dnames s.files) cs s.files
  refine ⟨fun f hf => ?_, ?_, h.deeds⟩
  · have h1 : f.1 ∈ (crashGo (dnames s.files) cs s.files).map (·.1) := List.mem_map.2 ⟨f, hf, rfl⟩
    rw [hk] at h1
    obtain ⟨g, hg, e⟩ := List.mem_map.1 h1
    rw [← e]
    exact h.names g hg
  · show (crashGo _ _ _).length ≤ k
    rw [crashGo_length]
    exact h.few
def twinR (s : Dst) (a : AV) : Dst := if a.k = 6 then { s with halt := max a.n (-1) } else if a.k = 7 then crR s (a.cs.take 20) else (doA s a).2
theorem twinR_gd {s : Dst} {k : Nat} (h : Gd s k) (a : AV) : Gd (twinR s a) (k + 1) := by
  unfold twinR
  split
  · exact ⟨h.names, by have := h.few; show s.files.length ≤ _; omega, by have := h.deeds; show s.deeds ≤ _; omega⟩
  split
  · exact (crR_gd h _).mono (by omega)
  · exact doR_gd h _ _ _ _
/-- two disks apart -/
structure Two (wx : World) (d m c mc : Nat) (s t : Dst) : Prop where
  one : DiskAt wx d m s
  two : DiskAt wx c mc t
theorem Two.apart {wx : World} {d m c mc : Nat} {s t : Dst} (h : Two wx d m c mc s t) : d ≠ mc ∧ m ≠ c := by
  constructor
  · rintro rfl
    obtain ⟨es, q, h1, _⟩ := h.two.map
    have := h.one.cell
    rw [h1] at this
    cases this
  · rintro rfl
    obtain ⟨es, q, h1, _⟩ := h.one.map
    have := h.two.cell
    rw [h1] at this
    cases this
/-- a round of the inner loop: q of the two have been asked -/
def InRel (w : World) (d m c mc hb : Nat) (s s' : Dst) (q : Nat) (wx : World) : Prop :=
  q ≤ 2 ∧ Two wx d m c mc (if 0 < q then s' else s) (if 1 < q then s' else s) ∧ wx.heap[hb]? = some (.cells #[ptr d, ptr c] 24 (0, 0)) ∧ Below w.heap.size w wx
theorem inrel_next {w wx : World} {d m c mc hb : Nat} {s s' : Dst} {q : Nat} (hdc : d ≠ c) (hmm : m ≠ mc) (g1 : w.heap.size ≤ d) (g2 : w.heap.size ≤ m) (g3 : w.heap.size ≤ c) (g4 : w.heap.size ≤ mc) (h : InRel w d m c mc hb s s' q wx) (hq : q < 2) :
    ∃ D M, wx.cell? ⟨hb, q, none⟩ = some (ptr D) ∧ DiskAt wx D M s ∧ ∀ w', DiskAt w' D M s' → Touch [D, M] wx w' → InRel w d m c mc hb s s' (q + 1) w' := by
  obtain ⟨_, hT, hrow, hB⟩ := h
  have hap := hT.apart
  have hbd : hb ≠ d ∧ hb ≠ c := by
    constructor
    · rintro rfl
      have := hT.one.cell
      rw [hrow] at this
      simp at this
    · rintro rfl
      have := hT.two.cell
      rw [hrow] at this
      simp at this
  have hbm : hb ≠ m ∧ hb ≠ mc := by
    constructor
    · rintro rfl
      obtain ⟨es, q, h1, _⟩ := hT.one.map
      rw [hrow] at h1
      cases h1
    · rintro rfl
      obtain ⟨es, q, h1, _⟩ := hT.two.map
      rw [hrow] at h1
      cases h1
  have hlt := lt_of_heap hrow
  have hc := fun i => cell_of_row wx hb i _ _ _ hrow
  match q, hq with
  | 0, _ =>
    refine ⟨d, m, hc 0, hT.one, fun w' h1 t => ⟨by omega, ⟨h1, hT.two.touch t (by simp; omega) (by simp; omega)⟩, (t.block hb hlt (by simp; omega)).trans hrow, below_touch hB t g1 g2⟩⟩
  | 1, _ =>
    refine ⟨c, mc, hc 1, hT.two, fun w' h1 t => ⟨by omega, ⟨hT.one.touch t (by simp; omega) (by simp; omega), h1⟩, (t.block hb hlt (by simp; omega)).trans hrow, below_touch hB t g3 g4⟩⟩
set_option maxHeartbeats 16000000 in
set_option maxRecDepth 100000 in
theorem W_DiskTwins (room : Int) (A0 : Option Addr) (cap0 : Nat) (before : List AV) (A1 : Option Addr) (cap1 : Nat) (acts : List AV) (w : World) (hA : Acts w A0 before) (hC : Acts w A1 acts) :
    Calls Try.prog 4 #[.int .i64 room, .slice A0 before.length cap0, .slice A1 acts.length cap1] w fun e w' => e = .returned (.bool true) ∧ Below w.heap.size w w' := by
  have hal := hA.max
  have hal1 := hC.max
  unfold maxLen at hal hal1
  have HA := Lib.hid hA
  have HC := Lib.hid hC
  clear hA hC
  go_enter Try.func4, Try.ntmps4
  go_wp2_with fail
  go_at_call 7
  with_reducible refine (D_awake w).mono ?_
  rintro e w1 ⟨rfl, b1⟩
  have B1 := Lib.hid b1
  clear b1
  go_wp2_with fail
  go_at_call 8
  with_reducible refine (D_new w1 (max 0 (min room 300))).mono ?_
  rintro e w2 ⟨d, m, rfl, h2, b2, hd, hm⟩
  have B2 := Lib.hid (B1.out.trans (b2.mono B1.out.size))
  have HD := Lib.hid (Nat.le_trans B1.out.size hd)
  have HM := Lib.hid (Nat.le_trans B1.out.size hm)
  have H2 := Lib.hid h2
  clear h2 b2 hd hm
  go_upto_block 0 with (fail)
  go_cut [8] from 29 to 44 (fun _ wx => ∃ s, DiskAt wx d m s ∧ Gd s 20 ∧ Below w.heap.size w wx)
  case first =>
    go_wp2_with fail
    go_loopw [8] (fun i wr => KRel2 w d m before.length 20 i wr) (fun i _ => 20 - (intOf i).toNat)
    case atStart => exact ⟨0, _, rfl, by omega, by omega, H2.out, gd_new _, B2.out⟩
    case round =>
      obtain ⟨j, s, rfl, hj, hj30, hD, hG, hB⟩ := hrel
      have hdd : s.deeds ≤ 1000000000 := by have := hG.deeds; omega
      have HG := Lib.hid hG
      have HB := Lib.hid hB
      clear hG hB
      by_cases hlt : j < before.length ∧ j < 20
      · obtain ⟨h1, h2⟩ := hlt
        have hj0 : (0 : Int) ≤ (j : Int) := by omega
        have hj1 : (j : Int) < (before.length : Int) := by omega
        have hj2 : (j : Int) < 20 := by omega
        obtain ⟨ad, rfl, hadl, hcell⟩ := (HA.out.below HB.out).rows j h1
        have q0 := hcell 0 _ rfl
        have q1 := hcell 1 _ rfl
        have q2 := hcell 2 _ rfl
        have q3 := hcell 3 _ rfl
        have q4 := hcell 4 _ rfl
        generalize before[j] = a at q0 q1 q2 q3 q4 hcell
        simp only [caddr, Nat.reduceAdd] at q0 q1 q2 q3 q4
        have hdo := D_do hD hdd a.k a.n a.nm a.st (.slice a.A a.cs.length a.cap)
        clear hcell hadl hD
        go_wp2_with fail
        go_at_call 12
        with_reducible refine hdo.mono ?_
        rintro e w3 ⟨rfl, h3, t3⟩
        have H3 := Lib.hid h3
        have T3 := Lib.hid t3
        clear h3 t3 hdo q0 q1 q2 q3 q4
        go_wp2
        go_roundw
        case rel => exact ⟨j + 1, _, by go_num, by omega, by omega, H3.out, doR_gd HG.out _ _ _ _, below_touch HB.out T3.out HD.out HM.out⟩
        case measure => simp [intOf]; omega
      · have hj0 : (0 : Int) ≤ (j : Int) := by omega
        have hwhy : ((j : Int) < (before.length : Int) ∧ ¬ (j : Int) < 20) ∨ ¬ (j : Int) < (before.length : Int) := by omega
        have HDD := Lib.hid hD
        clear hlt hD
        rcases hwhy with ⟨hw1, hw2⟩ | hw1
        all_goals
          go_wp2
          go_meet
          case rel => exact ⟨s, HDD.out, HG.out.mono (by omega), HB.out⟩
  case rest =>
    obtain ⟨s, hD, hG, hB⟩ := hcut
    have hcl := D_clone hD
    have HDD := Lib.hid hD
    have HG := Lib.hid hG
    have HB := Lib.hid hB
    clear hD hG hB
    go_wp2_with fail
    go_at_call 13
    with_reducible refine hcl.mono ?_
    rintro e w3 ⟨c, mc, rfl, hc3, b3, hc, hmc⟩
    have hlt3 := HDD.out.lt
    have hT3 : Two w3 d m c mc s s := ⟨HDD.out.below b3, hc3⟩
    have hB3 := HB.out.trans (b3.mono HB.out.size)
    have HT3 := Lib.hid hT3
    have HB3 := Lib.hid hB3
    have HAP := Lib.hid (show d ≠ c ∧ m ≠ mc by omega)
    have HCC := Lib.hid (And.intro (Nat.le_trans HB.out.size hc) (Nat.le_trans HB.out.size hmc))
    clear hcl hc3 b3 hT3 hB3 hlt3 hc hmc
    go_upto_block 2 with (fail)
    go_cut [10] from 47 to 95 (fun _ wx => ∃ s, Two wx d m c mc s s ∧ Gd s 60 ∧ Below w.heap.size w wx)
    case first =>
      go_wp2_with fail
      go_loopw [10] (fun i wr => ∃ (j : Nat) (s : Dst), i = .int .i64 (j : Int) ∧ j ≤ acts.length ∧ j ≤ 40 ∧ Two wr d m c mc s s ∧ Gd s (20 + j) ∧ Below w.heap.size w wr) (fun i _ => 40 - (intOf i).toNat)
      case atStart => exact ⟨0, s, rfl, by omega, by omega, HT3.out, HG.out, HB3.out⟩
      case round =>
        obtain ⟨j, s, rfl, hj, hj30, hT, hG, hB⟩ := hrel
        have hj0 : (0 : Int) ≤ (j : Int) := by omega
        have HGG := Lib.hid hG
        have HTT := Lib.hid hT
        have HBB := Lib.hid hB
        clear hG hT hB
        by_cases hlt : j < acts.length ∧ j < 40
        · obtain ⟨h1, h2⟩ := hlt
          have hj1 : (j : Int) < (acts.length : Int) := by omega
          have hj2 : (j : Int) < 40 := by omega
          have hok := HC.out.ok acts[j] (List.getElem_mem h1)
          obtain ⟨ad, rfl, hadl, hcell⟩ := HC.out.rows j h1
          generalize acts[j] = a at hok hcell
          have HOKA := Lib.hid hok
          have HCE := Lib.hid hcell
          obtain ⟨s', hs'⟩ : ∃ s', twinR s a = s' := ⟨_, rfl⟩
          have HS' := Lib.hid hs'
          have HG' := Lib.hid (twinR_gd HGG.out a)
          rw [hs'] at HG'
          clear h1 hok hcell hs'
          have hdd : s.deeds ≤ 1000000000 := by have := HGG.out.deeds; omega
          go_wp2_with fail
          go_loopw [61] (fun i wx => ∃ q : Nat, i = .int .i64 (q : Int) ∧ InRel w d m c mc wr.heap.size s s' q wx) (fun i _ => 2 - (intOf i).toNat)
          case atStart =>
            have hb1 : Below wr.heap.size wr (wr.alloc (.cells #[ptr d, ptr c] 24)) := (Below.refl _ _).alloc (Nat.le_refl _) _
            exact ⟨0, rfl, by omega, ⟨HTT.out.one.below hb1, HTT.out.two.below hb1⟩, push_new rfl, HBB.out.trans (hb1.mono HBB.out.size)⟩
          case round =>
            obtain ⟨q, rfl, hI⟩ := hrel
            have hq0 : (0 : Int) ≤ (q : Int) := by omega
            by_cases hq : q < 2
            · have hq1 : (q : Int) < 2 := by omega
              obtain ⟨D, M, p0, hDM, hnext⟩ := inrel_next HAP.out.1 HAP.out.2 HD.out HM.out HCC.out.1 HCC.out.2 hI hq
              have HBI := Lib.hid hI.2.2.2
              have HN := Lib.hid hnext
              have HDM := Lib.hid hDM
              obtain ⟨k, n, nm, st, CA, cc, cs⟩ := a
              have q0 := (HBI.out.cell (p := caddr (ad.add (j * 5)) 0) (by rw [caddr_block, rblock]; exact hadl)).trans (HCE.out 0 _ rfl)
              have q1 := (HBI.out.cell (p := caddr (ad.add (j * 5)) 1) (by rw [caddr_block, rblock]; exact hadl)).trans (HCE.out 1 _ rfl)
              have q2 := (HBI.out.cell (p := caddr (ad.add (j * 5)) 2) (by rw [caddr_block, rblock]; exact hadl)).trans (HCE.out 2 _ rfl)
              have q3 := (HBI.out.cell (p := caddr (ad.add (j * 5)) 3) (by rw [caddr_block, rblock]; exact hadl)).trans (HCE.out 3 _ rfl)
              have q4 := (HBI.out.cell (p := caddr (ad.add (j * 5)) 4) (by rw [caddr_block, rblock]; exact hadl)).trans (HCE.out 4 _ rfl)
              simp only [caddr, Nat.reduceAdd] at q0 q1 q2 q3 q4
              clear hI hq hnext hDM hadl
              by_cases k6 : k = 6
              · subst k6
                have hh := D_halt HDM.out n HOKA.out.nb
                go_wp2_with fail
                go_at_call 14
                with_reducible refine hh.mono ?_
                rintro e w3 ⟨rfl, h3, t3⟩
                have hfin := HN.out w3 (by rw [← HS'.out]; unfold twinR; rw [if_pos rfl]; exact h3) (t3.mono (by simp))
                have HF := Lib.hid hfin
                clear hh h3 t3 hfin q0 q1 q2 q3 q4 p0
                go_wp2
                go_roundw
                case rel => exact ⟨q + 1, by go_num, HF.out⟩
                case measure => simp [intOf]; omega
              have e6 : (k == 6) = false := by simp [k6]
              by_cases k7 : k = 7
              · subst k7
                obtain ⟨L, hL⟩ : ∃ L, cs.length = L := ⟨_, rfl⟩
                have hfw := D_few wr CA cc cs (HOKA.out.below HBI.out).rows HOKA.out.len HOKA.out.cap
                simp only [hL] at q4 hfw
                clear hL
                go_wp2_with fail
                go_at_call 16
                with_reducible refine hfw.mono ?_
                rintro e w5 ⟨rfl, A2, rfl, hf5⟩
                have hcr := D_crash' HDM.out (HGG.out.ok (by omega)) A2 cc (cs.take 20) hf5 (Nat.le_trans (show (cs.take 20).length ≤ cs.length by rw [List.length_take]; omega) HOKA.out.len) HOKA.out.cap
                clear hfw hf5
                obtain ⟨C2, hC2⟩ : ∃ C2, (cs.take 20).length = C2 := ⟨_, rfl⟩
                rw [hC2] at hcr ⊢
                clear hC2
                go_wp2_with fail
                go_at_call 15
                with_reducible refine hcr.mono ?_
                rintro e w3 ⟨rfl, h3, t3⟩
                have hfin := HN.out w3 (by rw [← HS'.out]; unfold twinR; rw [if_neg (show ¬ (7 : Int) = 6 by decide), if_pos rfl]; exact h3) t3
                have HF := Lib.hid hfin
                clear hcr h3 t3 hfin q0 q1 q2 q3 q4 p0
                go_wp2
                go_roundw
                case rel => exact ⟨q + 1, by go_num, HF.out⟩
                case measure => simp [intOf]; omega
              have e7 : (k == 7) = false := by simp [k7]
              have hdo := D_do HDM.out hdd k n nm st (.slice CA cs.length cc)
              go_wp2_with fail
              go_at_call 12
              with_reducible refine hdo.mono ?_
              rintro e w3 ⟨rfl, h3, t3⟩
              have hfin := HN.out w3 (by rw [← HS'.out]; unfold twinR; rw [if_neg k6, if_neg k7]; exact h3) t3
              have HF := Lib.hid hfin
              clear hdo h3 t3 hfin q0 q1 q2 q3 q4 p0
              go_wp2
              go_roundw
              case rel => exact ⟨q + 1, by go_num, HF.out⟩
              case measure => simp [intOf]; omega
            · obtain rfl : q = 2 := by have := hI.1; omega
              have HI := Lib.hid hI
              clear hI hq
              go_wp2
              go_roundw
              case rel => exact ⟨j + 1, s', by go_num, by omega, by omega, HI.out.2.1, HG'.out, HI.out.2.2.2⟩
              case measure => simp [intOf]; omega
        · have hwhy : ((j : Int) < (acts.length : Int) ∧ ¬ (j : Int) < 40) ∨ ¬ (j : Int) < (acts.length : Int) := by omega
          clear hlt
          rcases hwhy with ⟨hw1, hw2⟩ | hw1
          all_goals
            go_wp2
            go_meet
            case rel => exact ⟨s, HTT.out, HGG.out.mono (by omega), HBB.out⟩
    case rest =>
      obtain ⟨s5, hT, hG, hB⟩ := hcut
      have hok5 := hG.ok (by omega)
      have hap := hT.apart
      have hc1 := D_crash' hT.one hok5 none 0 [] (rows_nil _ _) (by simp) (by simp)
      rw [List.length_nil] at hc1
      obtain ⟨s9, h9⟩ : ∃ s9, crR s5 [] = s9 := ⟨_, rfl⟩
      have hdw : s9.down = false := by rw [← h9]; rfl
      have hG9 : Gd s9 60 := by rw [← h9]; exact crR_gd hG _
      have HT := Lib.hid hT
      have HB := Lib.hid hB
      have HOK := Lib.hid hok5
      have HPP := Lib.hid hap
      have H9 := Lib.hid h9
      have HDW := Lib.hid hdw
      have HG9 := Lib.hid hG9
      clear hT hG hB hok5 hap h9 hdw hG9
      go_wp2_with fail
      go_at_call 15
      with_reducible refine hc1.mono ?_
      rintro e w4 ⟨rfl, h4, t4⟩
      have hT4 : DiskAt w4 c mc s5 := HT.out.two.touch t4 (by simp; exact ⟨fun e => HAP.out.1 e.symm, fun e => HPP.out.2 e.symm⟩) (by simp; exact ⟨fun e => HPP.out.1 e.symm, fun e => HAP.out.2 e.symm⟩)
      have hc2 := D_crash' hT4 HOK.out none 0 [] (rows_nil _ _) (by simp) (by simp)
      rw [List.length_nil] at hc2
      have H4 := Lib.hid (show DiskAt w4 d m s9 by rw [← H9.out]; exact h4)
      have HB4 := Lib.hid (below_touch HB.out t4 HD.out HM.out)
      clear hc1 h4 t4 hT4
      go_wp2_with fail
      go_at_call 15
      with_reducible refine hc2.mono ?_
      rintro e w5 ⟨rfl, h5, t5⟩
      have HT5 := Lib.hid (show Two w5 d m c mc s9 s9 from ⟨H4.out.touch t5 (by simp; exact ⟨HAP.out.1, HPP.out.1⟩) (by simp; exact ⟨HPP.out.2, HAP.out.2⟩), by rw [← H9.out]; exact h5⟩)
      have HB5 := Lib.hid (below_touch HB4.out t5 HCC.out.1 HCC.out.2)
      have hn1 := D_names HT5.out.one (HG9.out.ok (by omega))
      clear hc2 h5 t5
      obtain ⟨NL, hNL⟩ : ∃ NL, (dnames s9.files).length = NL := ⟨_, rfl⟩
      have hNB : NL ≤ 60 := by rw [← hNL, dnames_length]; exact HG9.out.few
      simp only [hNL] at hn1
      have HNL := Lib.hid hNL
      clear hNL
      go_wp2_with fail
      go_at_call 17
      with_reducible refine hn1.mono ?_
      rintro e w6 ⟨P1, c1, rfl, r6, b6⟩
      have hn2 := D_names (HT5.out.two.below b6) (HG9.out.ok (by omega))
      simp only [HNL.out] at hn2
      have R6 := Lib.hid r6
      have B6 := Lib.hid b6
      clear hn1 r6 b6
      go_wp2_with fail
      go_at_call 17
      with_reducible refine hn2.mono ?_
      rintro e w7 ⟨P2, c2, rfl, r7, b7⟩
      have B7 := Lib.hid (B6.out.trans (b7.mono B6.out.size))
      have R7 := Lib.hid (And.intro (R6.out.below b7 rfl) r7)
      have hu := fun W (hW : Below w5.heap.size w5 W) => D_used (HT5.out.one.below hW)
      have hu2 := fun W (hW : Below w5.heap.size w5 W) => D_used (HT5.out.two.below hW)
      have hv := fun W (hW : Below w5.heap.size w5 W) => D_deeds (HT5.out.one.below hW)
      have hv2 := fun W (hW : Below w5.heap.size w5 W) => D_deeds (HT5.out.two.below hW)
      have HU := Lib.hid hu
      have HU2 := Lib.hid hu2
      have HV := Lib.hid hv
      have HV2 := Lib.hid hv2
      clear hn2 r7 b7 hu hu2 hv hv2
      go_wp2_with fail
      go_at_call 10
      with_reducible refine (HU.out _ B7.out).mono ?_
      rintro e w8 ⟨rfl, b8⟩
      have B8 := Lib.hid (B7.out.trans (b8.mono B7.out.size))
      have R8 := Lib.hid (And.intro (R7.out.1.below b8 rfl) (R7.out.2.below b8 rfl))
      clear b8
      go_wp2_with fail
      go_at_call 10
      with_reducible refine (HU2.out _ B8.out).mono ?_
      rintro e w9 ⟨rfl, b9⟩
      have B9 := Lib.hid (B8.out.trans (b9.mono B8.out.size))
      have R9 := Lib.hid (And.intro (R8.out.1.below b9 rfl) (R8.out.2.below b9 rfl))
      clear b9
      go_wp2_with fail
      go_at_call 18
      with_reducible refine (HV.out _ B9.out).mono ?_
      rintro e w10 ⟨rfl, rfl⟩
      go_wp2_with fail
      go_at_call 18
      with_reducible refine (HV2.out _ B9.out).mono ?_
      rintro e w11 ⟨rfl, rfl⟩
      go_wp2_with fail
      go_loopw [125] (fun i wr => ∃ j : Nat, i = .int .i64 (j : Int) ∧ j ≤ NL ∧ Below w9.heap.size w9 wr) (fun i _ => NL - (intOf i).toNat)
      case atStart => exact ⟨0, rfl, by omega, Below.refl _ _⟩
      case round =>
        obtain ⟨j2, rfl, hj2, hb⟩ := hrel
        have hk0 : (0 : Int) ≤ (j2 : Int) := by omega
        have BB := Lib.hid (B9.out.trans (hb.mono B9.out.size))
        have HBB := Lib.hid hb
        by_cases hl2 : j2 < NL
        · have hk1 : (j2 : Int) < (NL : Int) := by omega
          have hl3 : j2 < (dnames s9.files).length := by rw [HNL.out]; exact hl2
          obtain ⟨ad1, rfl, hadl1, hcell1⟩ := (R9.out.1.below hb rfl) j2 hl3
          obtain ⟨ad2, rfl, hadl2, hcell2⟩ := (R9.out.2.below hb rfl) j2 hl3
          have p1 := hcell1 0 _ rfl
          have p2' := hcell2 0 _ rfl
          have HC2 := Lib.hid (fun W (hW : Below wr.heap.size wr W) => (hW.cell (p := caddr (ad2.add (j2 * 1)) 0) (by rw [caddr_block, rblock]; exact hadl2)).trans p2')
          have hmem := mem_dnames (List.getElem_mem hl3)
          generalize (dnames s9.files)[j2] = n at p1 p2' HC2 hmem hcell1 hcell2
          simp only [caddr, Nat.mul_one] at p1 HC2
          obtain ⟨ct, hct⟩ : ∃ ct, (fget s9.files n).1 = ct := ⟨_, rfl⟩
          have hr1 := fun W (hW : Below w5.heap.size w5 W) => D_read (HT5.out.one.below hW) n
          have hr2 := fun W (hW : Below w5.heap.size w5 W) => D_read (HT5.out.two.below hW) n
          rw [readR_some HDW.out hmem, hct] at hr1 hr2
          have hnn : (n.toList == n.toList) = true := by simp
          have hcc : (ct.toList == ct.toList) = true := by simp
          have HR1 := Lib.hid hr1
          have HR2 := Lib.hid hr2
          clear hcell1 hcell2 hadl1 hadl2 p2' hmem hct hr1 hr2 hb hl3
          go_wp2_with fail
          go_at_call 19
          with_reducible refine (HR1.out _ BB.out).mono ?_
          rintro e w12 ⟨rfl, b12⟩
          have HB12 := Lib.hid b12
          clear b12
          go_wp2_with fail
          go_at_call 19
          with_reducible refine (HR2.out _ (BB.out.trans (HB12.out.mono BB.out.size))).mono ?_
          rintro e w13 ⟨rfl, b13⟩
          have hb13 := HB12.out.trans (b13.mono HB12.out.size)
          have p2 := HC2.out _ hb13
          have HB13 := Lib.hid (HBB.out.trans (hb13.mono HBB.out.size))
          clear b13 hb13
          go_wp2
          go_roundw
          case rel => exact ⟨j2 + 1, by go_num, by omega, HB13.out⟩
          case measure => simp [intOf]; omega
        · obtain rfl : j2 = NL := by omega
          have HBF := Lib.hid (HB5.out.trans (BB.out.mono HB5.out.size))
          clear hb
          go_wp2
          go_ret
          exact ⟨rfl, HBF.out⟩
end Go.Proofs.Ytakefjdckacgpaa.Cod
