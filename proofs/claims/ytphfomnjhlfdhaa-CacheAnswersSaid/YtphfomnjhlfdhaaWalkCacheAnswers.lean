/- CacheAnswers: the walk. -/
import Derived.Test.YtphfomnjhlfdhaaCaAns
import Derived.Test.YtphfomnjhlfdhaaCaAwake
import Derived.Test.YtphfomnjhlfdhaaTexts
import Derived.Laws.EntriesVeiled
namespace Go.Proofs.Ytphfomnjhlfdhaa.Cod
open Go.RowKit
def AnsRel (w0 : World) (c cb ob : Nat) (most : Int) (n : Nat) (i : Value) (wr : World) : Prop :=
  ∃ k : Nat, k ≤ n ∧ k ≤ 20 ∧ i = .int .i64 k ∧ ∃ S l hits gets, Pre wr S c cb ob l most hits gets ∧ gets ≤ 13 * k ∧ Below w0.heap.size w0 wr ∧ ∀ a ∈ S, w0.heap.size ≤ a
def WantRel (kk : ByteArray) (v x : Value) : Prop := ∃ (j : Nat) (y : Int), j ≤ kk.size ∧ v = .int .i64 (want ((bl kk).drop j)) ∧ x = .int .i64 y ∧ y + 1 ≤ j ∧ j ≤ y + 1
theorem want_drop (kk : ByteArray) (i : Nat) (h : i < kk.size) : want ((bl kk).drop i) = (kk[i].toNat : Int) + 3 * want ((bl kk).drop (i + 1)) := by
  have h1 : i < (bl kk).length := by rw [bl_len]; exact h
  rw [List.drop_eq_getElem_cons h1]
  rfl
set_option maxHeartbeats 8000000 in
set_option maxRecDepth 100000 in
theorem W_CacheAnswers (n : Int) (hn1 : n ≤ 9223372036854775807) (hn0 : -9223372036854775808 ≤ n) (A : Option Addr) (cap : Nat) (ss : List ByteArray) (hmax : ss.length ≤ maxLen) (w : World) (hT : TextsAt w A ss) (hsz : ∀ s ∈ ss, s.size ≤ maxLen) :
    Calls Try.prog 3 #[.int .i64 n, .slice A ss.length cap] w fun e w' => e = .returned (.bool true) ∧ Below w.heap.size w w' := by
  unfold maxLen at hmax
  have HT := Lib.hid hT
  have HS := Lib.hid hsz
  clear hT hsz
  go_enter Try.func3, Try.ntmps3
  go_wp2_with (go_at_call 6; ((with_reducible refine (C_awake12 _).mono ?_); rintro e w1 ⟨rfl, f1⟩))
  go_at_call 7
  with_reducible refine (C_new _ _).mono ?_
  rintro e w2 ⟨c, S2, rfl, hc2, f2, n2⟩
  have hq : max 1 (min (max (-1) (min n 20)) 1024) ≤ 20 ∧ 1 ≤ max 1 (min (max (-1) (min n 20)) 1024) := by omega
  generalize max 1 (min (max (-1) (min n 20)) 1024) = most at hc2 hq
  have hP3 : Pre ((w2.alloc (.cells #[ptr c] PT0)).alloc (.cells #[FV w2.heap.size (w2.heap.size + 1)] FT)) S2 c w2.heap.size (w2.heap.size + 1) [] most 0 0 := by
    have lt := hc2.lt
    refine ⟨hc2.of_blocks fun a ha => ?_, (fun p hp => by cases hp), (by simp; omega), by omega, by omega, by omega, ?_, ?_, fun h => Nat.lt_irrefl _ (lt _ h), fun h => by have := lt _ h; omega⟩
    · have := lt a ha
      exact (push_old (by simp; omega)).trans (push_old this)
    · exact (push_old (by simp)).trans (push_new rfl)
    · exact push_new (by simp)
  have hB3 : Below w1.heap.size w1 ((w2.alloc (.cells #[ptr c] PT0)).alloc (.cells #[FV w2.heap.size (w2.heap.size + 1)] FT)) := (f2.alloc f2.size _).alloc (by have := f2.size; simp; omega) _
  have HP3 := Lib.hid hP3
  have HB3 := Lib.hid hB3
  have HF1 := Lib.hid f1
  have HN2 := Lib.hid n2
  clear hc2 f2 f1 n2 hP3 hB3
  go_wp2_with fail
  have lc := Lib.hid (lt_of_heap HP3.out.cbox)
  generalize (w2.alloc (.cells #[ptr c] PT0)).alloc (.cells #[FV w2.heap.size (w2.heap.size + 1)] FT) = w3 at HP3 HB3 ⊢
  generalize w2.heap.size + 1 = ob at HP3 ⊢
  generalize w2.heap.size = cb at HP3 ⊢
  go_loopw [7] (fun i wr => AnsRel w1 c cb ob most ss.length i wr) (fun i _ => 20 - (intOf i).toNat)
  case atStart => exact ⟨0, by omega, by omega, rfl, S2, [], 0, 0, HP3.out, by omega, HB3.out, HN2.out⟩
  case round =>
    obtain ⟨k, hk, hk20, rfl, S, l, hits, gets, hP, hg, hb, hS⟩ := hrel
    have hmo := hP.len
    by_cases hlt : k < ss.length ∧ k < 20
    · obtain ⟨hl1, hl2⟩ := hlt
      obtain ⟨x, hx⟩ : ∃ x, ss[k]? = some x := ⟨_, List.getElem?_eq_getElem hl1⟩
      obtain ⟨a, rfl, hab, hcell⟩ := HT.out k x hx
      have hcr : wr.cell? (a.add k) = some (.string x) := (hb.cell (p := a.add k) (Nat.lt_of_lt_of_le hab HF1.out.size)).trans ((HF1.out.cell hab).trans hcell)
      have hcut : ∀ v, Calls Try.prog 10 #[.string x, .int .i64 12] v fun e w' => e = .returned (.string (cutB x 12)) ∧ v = w' := fun v => C_cutB x 12 (by omega) v
      have hks := (cutB_size x 12).1
      generalize cutB x 12 = kk at hcut hks
      have hi1 : (k : Int) < (ss.length : Int) := by omega
      have hi2 : (k : Int) < 20 := by omega
      have hi0 : (0 : Int) ≤ (k : Int) := by omega
      have HP := Lib.hid hP
      have HB := Lib.hid hb
      have HSS := Lib.hid hS
      clear hx hP hb hS hcell hmo
      go_wp2_with (go_at_call 10; ((with_reducible refine (hcut _).mono ?_); rintro e w4 ⟨rfl, rfl⟩))
      have hk0 : (0 : Int) ≤ (kk.size : Int) := by omega
      have hk12 : (kk.size : Int) ≤ 12 := by omega
      go_loop [9, 10] (fun v x => WantRel kk v x) (fun _ x => (intOf x + 1).toNat)
      case atStart =>
        refine ⟨kk.size, (kk.size : Int) - 1, Nat.le_refl _, ?_, rfl, by omega, by omega⟩
        rw [List.drop_of_length_le (by rw [bl_len]; omega)]
        rfl
      case round =>
        obtain ⟨j, y, hj, rfl, rfl, hy1, hy2⟩ := hrel
        by_cases hj0 : j = 0
        · subst hj0
          have hyn : ¬ 0 ≤ y := by omega
          have hyz : y < 0 := by omega
          clear hyn hy1 hy2
          rw [List.drop_zero]
          have hw2 := want_bd (bl kk) (by rw [bl_len]; omega)
          have hc1 := cell_of_row _ _ 0 _ _ _ HP.out.cbox
          have hc2 := cell_of_row _ _ 0 _ _ _ HP.out.obox
          have hO := C_of HP.out kk (by omega) (fun w1 S1 l1 hits1 gets1 p1 hg1 => C_cl kk.size kk rfl hks p1 (by omega))
          unfold AnsAt at hO
          generalize want (bl kk) = W at hO hw2 ⊢
          go_wp2_with fail
          go_at_call 9
          with_reducible refine hO.mono ?_
          rintro e w5 ⟨rfl, S5, l5, hits5, gets5, p5, hg5, t5, f5⟩
          have hB5 := HB.out.trans (t5.below HSS.out HB.out.size)
          have hS5 : ∀ a ∈ S5, w1.heap.size ≤ a := fun a ha => (f5 a ha).elim (HSS.out a) fun q => Nat.le_trans HB.out.size q
          have hg5' : gets5 ≤ 13 * ((k + 1 : Nat) : Int) := by push_cast; omega
          have P5 := Lib.hid p5
          have HB5 := Lib.hid hB5
          have HS5 := Lib.hid hS5
          have HG5 := Lib.hid hg5'
          clear p5 t5 f5 hB5 hS5 hg5 hg5' hO hw2
          have hWW : (W != W) = false := by simp
          go_wp2
          go_roundw
          case rel => exact ⟨k + 1, by omega, by omega, by go_num, S5, l5, hits5, gets5, P5.out, HG5.out, HB5.out, HS5.out⟩
          case measure => simp [intOf]; omega
        · obtain ⟨i, rfl⟩ : ∃ i, j = i + 1 := ⟨j - 1, by omega⟩
          obtain rfl : y = (i : Int) := by omega
          have hik : i < kk.size := by omega
          have hik2 : (i : Int) < (kk.size : Int) := by omega
          have hi0 : (0 : Int) ≤ (i : Int) := by omega
          have hwd := want_drop kk i hik
          have hw2 := want_bd ((bl kk).drop (i + 1)) (by rw [List.length_drop, bl_len]; omega)
          have hby : (0 : Int) ≤ (kk[i].toNat : Int) ∧ (kk[i].toNat : Int) ≤ 255 := by have := kk[i].toNat_lt; omega
          generalize want ((bl kk).drop (i + 1)) = W at hwd hw2
          have HWD := Lib.hid hwd
          clear hwd hj0 hy1 hy2 hj
          go_wp2
          go_round
          case rel => exact ⟨i, (i : Int) - 1, by omega, by rw [HWD.out], by go_num, by omega, by omega⟩
          case measure => simp [intOf]
    · have hend : k = ss.length ∨ k = 20 := by omega
      have hc1 := cell_of_row _ _ 0 _ _ _ hP.cbox
      have hlen := C_len wr hP.cac
      have HB := Lib.hid (HF1.out.trans (hb.mono HF1.out.size))
      have hl20 : (l.length : Int) ≤ 20 := by omega
      clear hP hb hS
      rcases hend with rfl | rfl
      · have hnl : ¬ ((ss.length : Int) < (ss.length : Int)) := by omega
        go_wp2_with (go_at_call 11; ((with_reducible refine hlen.mono ?_); rintro e w5 ⟨rfl, rfl⟩))
        go_ret
        exact ⟨rfl, HB.out⟩
      · by_cases hq9 : 20 < ss.length
        · have hq9' : (20 : Int) < (ss.length : Int) := by omega
          go_wp2_with (go_at_call 11; ((with_reducible refine hlen.mono ?_); rintro e w5 ⟨rfl, rfl⟩))
          go_ret
          exact ⟨rfl, HB.out⟩
        · obtain hq9' : ss.length = 20 := by omega
          have hq9'' : ¬ ((20 : Int) < (ss.length : Int)) := by omega
          clear hq9'
          go_wp2_with (go_at_call 11; ((with_reducible refine hlen.mono ?_); rintro e w5 ⟨rfl, rfl⟩))
          go_ret
          exact ⟨rfl, HB.out⟩
end Go.Proofs.Ytphfomnjhlfdhaa.Cod
