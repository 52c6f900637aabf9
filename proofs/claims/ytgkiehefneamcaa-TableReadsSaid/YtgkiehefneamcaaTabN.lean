/- Table.Change, table.New: the walks. -/
import Derived.Test.YtgkiehefneamcaaTabC
namespace Go.Proofs.Ytgkiehefneamcaa.Cod
open Go.RowKit
theorem result_two {P : Program} {w : World} {fn : Func} {tmps : Array Value} {x y : Tmp} {t : TypeId} {p : Addr} {v u : Value} (h : fn.results = #[.cell x t, .tmp y]) (hx : tmps.getD x undef = .pointer (some p)) (hy : tmps.getD y undef = u) (hl : (loadVar t p).run P w = .ok v w) :
    (results fn tmps).run P w = .ok (.tuple #[v, u]) w := by
  simp only [Array.getD_eq_getD_getElem?] at hx hy
  simp [results, h, hx, hl, hy, asAddr]
theorem snocI {α : Type} {P : List α → Prop} (h0 : P []) (h1 : ∀ l a, P l → P (l ++ [a])) (l : List α) : P l := by
  have h : ∀ m : List α, P m.reverse := by
    intro m
    induction m with
    | nil => exact h0
    | cons a m ih => rw [List.reverse_cons]; exact h1 _ _ ih
  have := h l.reverse
  rwa [List.reverse_reverse] at this
def zeros : List Int := List.replicate 64 0
theorem zeros_pows : Pows zeros := ⟨by simp [zeros], fun x hx => by have := List.eq_of_mem_replicate hx; omega⟩
theorem nc_zeros : nc zeros = Array.replicate 64 (.int .i64 0) := nc_rep 64
def setAll (T : List Int) (l : List (Int × Int)) : List Int := l.foldl (fun T p => T.set p.1.toNat p.2) T
theorem setAll_snoc (T : List Int) (l : List (Int × Int)) (p : Int × Int) : setAll T (l ++ [p]) = (setAll T l).set p.1.toNat p.2 := by simp [setAll]
def okE (least : Int) (l : List (Int × Int)) : Prop := ∀ p ∈ l, 0 ≤ p.1 ∧ p.1 < 64 ∧ least ≤ p.2 ∧ p.2 ≤ 1099511627776
theorem chk_okE {l : List (Int × Int)} {least : Int} (h : chk l least = 0) : okE least l := by
  have hl : ¬ 64 < l.length := fun h64 => by unfold chk at h; rw [if_pos h64] at h; cases h
  intro p hp
  obtain ⟨k, hk, rfl⟩ := List.mem_iff_getElem.1 hp
  have := (chk_zero hl).1 h k hk
  simp only [eok, Bool.and_eq_true, decide_eq_true_eq] at this
  exact this.1
theorem chk_len {l : List (Int × Int)} {least : Int} (h : chk l least = 0) : l.length ≤ 64 := by
  by_cases hl : 64 < l.length
  · unfold chk at h; rw [if_pos hl] at h; cases h
  · omega
theorem setAll_pows {T : List Int} (hT : Pows T) {l : List (Int × Int)} (h : okE 0 l) : Pows (setAll T l) := by
  induction l using snocI with
  | h0 => exact hT
  | h1 l p ih =>
    rw [setAll_snoc]
    have h1 := ih fun q hq => h q (by simp [hq])
    have h2 := h p (by simp)
    refine ⟨by simpa using h1.1, fun x hx => ?_⟩
    rcases List.mem_or_eq_of_mem_set hx with h | rfl
    · exact h1.2 x h
    · omega
def chg (T : List Int) (l : List (Int × Int)) : List Int × Int := if chk l 0 = 0 then (if isum (setAll T l) = 0 then (zeros, 7) else (setAll T l, 0)) else (zeros, chk l 0)
def new (l : List (Int × Int)) : List Int × Int := if chk l 1 = 0 then (if l = [] then (zeros, 1) else chg zeros l) else (zeros, chk l 1)
def ChgRel (w : World) (T : List Int) (l : List (Int × Int)) (i : Value) (wr : World) : Prop := ∃ k : Nat, k ≤ l.length ∧ i = .int .i64 k ∧ wr.heap[w.heap.size]? = some (.cells (nc (setAll T (l.take k))) 45 (0, 0)) ∧ wr.heap[w.heap.size + 1]? = some (.cells (nc zeros) 45 (0, 0)) ∧ Below w.heap.size w wr
theorem ret_two {C D : Array Value} {a b : Int} (h1 : C = D) (h2 : a = b) : Ending.returned (.tuple #[.agg C, .int .i64 a]) = .returned (.tuple #[.agg D, .int .i64 b]) := by rw [h1, h2]
set_option maxHeartbeats 4000000 in
set_option maxRecDepth 100000 in
theorem C_change (T : List Int) (hT : Pows T) (A : Option Addr) (c : Nat) (l : List (Int × Int)) (w : World) (h : Ents w A l) (hm : l.length ≤ maxLen) :
    Calls Try.prog 40 #[.agg (nc T), .slice A l.length c] w fun e w' => e = .returned (.tuple #[.agg (nc (chg T l).1), .int .i64 (chg T l).2]) ∧ Below w.heap.size w w' := by
  have hs := nc_size T
  rw [hT.1] at hs
  have hZs : (nc zeros).size = 64 := by rw [nc_zeros]; simp
  have hZ1 := nc_one zeros
  have hZi : (Try.prog.info? 45).map (·.size) = some (nc zeros).size := by rw [hZs]; kernel_rfl
  have hZe := nc_zeros
  by_cases hck : chk l 0 = 0
  · have hok := chk_okE hck
    have hl64 := chk_len hck
    have hc := fun v hv => C_tchk A c l 0 v hv hm
    rw [hck] at hc
    have hchg : chg T l = (if isum (setAll T l) = 0 then (zeros, 7) else (setAll T l, 0)) := by unfold chg; rw [if_pos hck]
    have hF := setAll_pows hT hok
    have hCT := fun v => C_total (setAll T l) hF v
    have hFs := nc_size (setAll T l)
    rw [hF.1] at hFs
    have hFi : (Try.prog.info? 45).map (·.size) = some (nc (setAll T l)).size := by rw [hFs]; kernel_rfl
    have hF1 := nc_one (setAll T l)
    have HCT := Lib.hid hCT
    have HCH := Lib.hid hchg
    have HT := Lib.hid hT
    clear hck hT hF hCT hchg
    obtain ⟨Z, eZ⟩ : ∃ Z, nc zeros = Z := ⟨_, rfl⟩
    obtain ⟨C, eC⟩ : ∃ C, nc T = C := ⟨_, rfl⟩
    rw [eC] at hs ⊢
    have HC := Lib.hid eC
    have HZ := Lib.hid eZ
    clear eC eZ
    go_enter Try.func40, Try.ntmps40
    have hb0 : ∀ o1 o2 : Obj, Below w.heap.size w ((w.alloc o1).alloc o2) := fun o1 o2 => ((Below.refl _ _).alloc (Nat.le_refl _) _).alloc (by simp) _
    go_wp2_with (go_at_call 39; ((with_reducible refine (hc _ (h.below (hb0 _ _))).mono ?_); rintro e w1 ⟨rfl, f1⟩; have r0 := (f1.block w.heap.size (by simp; omega)).trans (heap_alloc2_old w _ _); have r1 := (f1.block (w.heap.size + 1) (by simp)).trans (heap_alloc2_new w _ _); have g1 := (hb0 _ _).trans (f1.mono (hb0 _ _).size); clear f1))
    rw [← HC.out] at r0
    replace r1 : w1.heap[w.heap.size + 1]? = some (.cells (nc zeros) 45 (0, 0)) := by rw [hZe]; exact r1
    go_loopw [17] (fun i wr => ChgRel w T l i wr) (fun i _ => l.length - (intOf i).toNat)
    case atStart => exact ⟨0, by omega, rfl, r0, r1, g1⟩
    case round =>
      obtain ⟨k, hk, rfl, hB0, hB1, hb⟩ := hrel
      clear r0 r1 g1
      by_cases hlt : k < l.length
      · obtain ⟨ad, rfl, hadl, h1, h2⟩ := (h.below hb) k hlt
        have hlti : (k : Int) < (l.length : Int) := by omega
        have htk : l.take (k + 1) = l.take k ++ [l[k]] := by rw [List.take_add_one, List.getElem?_eq_getElem hlt]; rfl
        have hin := hok l[k] (List.getElem_mem hlt)
        generalize l[k] = p at h1 h2 htk hin
        obtain ⟨m, n⟩ := p
        simp only at h1 h2 hin
        obtain ⟨q, rfl, hq⟩ : ∃ q : Nat, m = q ∧ q < 64 := ⟨m.toNat, by omega, by omega⟩
        have HTK := Lib.hid htk
        clear htk
        obtain ⟨S, hS⟩ : ∃ S, setAll T (l.take k) = S := ⟨_, rfl⟩
        have hSl : S.length = 64 := by
          rw [← hS]
          exact (setAll_pows HT.out fun p hp => hok p (List.mem_of_mem_take hp)).1
        rw [hS] at hB0
        have HS := Lib.hid hS
        clear hS
        have hw : ∀ o : Obj, (wr.alloc o).heap[w.heap.size]? = some (.cells (nc S) 45 (0, 0)) := fun o => ((Below.refl _ _).alloc (Nat.le_refl _) o).block _ (Array.getElem?_eq_some_iff.1 hB0).1 |>.trans hB0
        have hw1 : ∀ o : Obj, (wr.alloc o).heap[w.heap.size + 1]? = some (.cells (nc zeros) 45 (0, 0)) := fun o => ((Below.refl _ _).alloc (Nat.le_refl _) o).block _ (Array.getElem?_eq_some_iff.1 hB1).1 |>.trans hB1
        have q3 := (cell_of_row _ _ q _ _ _ (hw (.cells #[.int .i64 q, .int .i64 n] 81))).trans (nc_getD S q (by rw [hSl]; exact hq))
        have q4 := frozen_of_row _ _ q _ _ (hw (.cells #[.int .i64 q, .int .i64 n] 81))
        go_wp2
        go_roundw
        case rel =>
          refine ⟨k + 1, by omega, by go_num, ?_, ?_, ?_⟩
          · rw [HTK.out, setAll_snoc, heap_setCell_same _ _ _ _ _ _ (hw _), nc_set, HS.out]; simp
          · rw [heap_setCell_other _ _ _ _ (by simp)]; exact hw1 _
          · exact (hb.alloc hb.size _).setCell (p := ⟨w.heap.size, q, none⟩) (Nat.le_refl _) _
        case measure => simp [intOf]; omega
      · obtain rfl : k = l.length := by omega
        rw [List.take_length] at hB0
        have hB0' := hB0
        obtain ⟨s, hs0⟩ : ∃ s, isum (setAll T l) = s := ⟨_, rfl⟩
        have hCT := HCT.out
        have hCH := HCH.out
        simp only [hs0] at hCT hCH
        obtain ⟨F, eF⟩ : ∃ F, nc (setAll T l) = F := ⟨_, rfl⟩
        rw [eF] at hFs hFi hF1 hB0
        simp only [eF] at hCT
        have b0 := (Array.getElem?_eq_some_iff.1 hB0).1
        have b1 := (Array.getElem?_eq_some_iff.1 hB1).1
        have HCT2 := Lib.hid hCT
        clear hCT hB0' hs0
        by_cases hs1 : s = 0
        · have hc2 : chg T l = (zeros, 7) := by rw [hCH, if_pos hs1]
          have HC2 := Lib.hid hc2
          subst hs1
          clear hc2 hCH
          go_wp2_with (first
            | (refine wpList_load_row (by rfl) 45 (.tmp 2) (by rfl) w.heap.size (by rfl) 45 F (0, 0) _ hB0 Try.underlying45 rfl hFi ?_)
            | (go_at_call 37; ((refine (HCT2.out _).mono ?_); rintro e w2 ⟨rfl, f2⟩; have q2 := (f2.block _ b1).trans hB1))
            | (refine wpList_store_row (by rfl) 45 (.tmp 4) (.tmp 31) (by rfl) (w.heap.size + 1) (nc zeros) (nc zeros) 45 (by rfl) (by simp only [hZe]; rfl) q2 hZi rfl hZ1 ?_))
          refine bodyPost_ret (result_two rfl rfl rfl (run_loadVar_row _ (w.heap.size + 1) 45 45 (nc zeros) (0, 0) _ (setRow_heap _ _ _ _ _ _ q2) Try.underlying45 rfl hZi)) rfl ⟨?_, setRow_below (hb.trans (f2.mono hb.size)) _ _ (by omega)⟩
          rw [HC2.out]
          rfl
        · have hc2 : chg T l = (setAll T l, 0) := by rw [hCH, if_neg hs1]
          have HC2 := Lib.hid hc2
          have HF := Lib.hid eF
          clear hc2 hCH eF
          go_wp2_with (first
            | (refine wpList_load_row (by rfl) 45 (.tmp 2) (by rfl) w.heap.size (by rfl) 45 F (0, 0) _ hB0 Try.underlying45 rfl hFi ?_)
            | (refine wpList_load_row (by rfl) 45 (.tmp 2) (by rfl) w.heap.size (by rfl) 45 F (0, 0) _ q1 Try.underlying45 rfl hFi ?_)
            | (go_at_call 37; ((refine (HCT2.out _).mono ?_); rintro e w2 ⟨rfl, f2⟩; have q1 := (f2.block _ b0).trans hB0; have q2 := (f2.block _ b1).trans hB1))
            | (refine wpList_store_row (by rfl) 45 (.tmp 4) (.tmp 32) (by rfl) (w.heap.size + 1) F (nc zeros) 45 (by rfl) (by rfl) q2 hFi (by rw [hZs, hFs]) hF1 ?_))
          refine bodyPost_ret (result_two rfl rfl rfl (run_loadVar_row _ (w.heap.size + 1) 45 45 F (0, 0) _ (setRow_heap _ _ _ _ _ _ q2) Try.underlying45 rfl hFi)) rfl ⟨?_, setRow_below (hb.trans (f2.mono hb.size)) _ _ (by omega)⟩
          rw [HC2.out, ← HF.out]
          rfl
  · have hchg : chg T l = (zeros, chk l 0) := by unfold chg; rw [if_neg hck]
    have hc := fun v hv => C_tchk A c l 0 v hv hm
    rw [hchg]
    clear hchg
    generalize chk l 0 = z at hck hc
    obtain ⟨C, eC⟩ : ∃ C, nc T = C := ⟨_, rfl⟩
    rw [eC] at hs ⊢
    clear eC
    go_enter Try.func40, Try.ntmps40
    have hb0 : ∀ o1 o2 : Obj, Below w.heap.size w ((w.alloc o1).alloc o2) := fun o1 o2 => ((Below.refl _ _).alloc (Nat.le_refl _) _).alloc (by simp) _
    go_wp2_with (first
      | (go_at_call 39; ((with_reducible refine (hc _ (h.below (hb0 _ _))).mono ?_); rintro e w1 ⟨rfl, f1⟩; have r1' := (f1.block (w.heap.size + 1) (by simp)).trans (heap_alloc2_new w _ _); have g1 := (hb0 _ _).trans (f1.mono (hb0 _ _).size); have r1 : w1.heap[w.heap.size + 1]? = some (.cells (nc zeros) 45 (0, 0)) := (by rw [hZe]; exact r1'); clear f1 r1'))
      | (refine wpList_store_row (by rfl) 45 (.tmp 4) (.tmp 13) (by rfl) (w.heap.size + 1) (nc zeros) (nc zeros) 45 (by rfl) (by simp only [hZe]; rfl) r1 hZi rfl hZ1 ?_))
    refine bodyPost_ret (result_two rfl rfl rfl (run_loadVar_row _ (w.heap.size + 1) 45 45 (nc zeros) (0, 0) _ (setRow_heap _ _ _ _ _ _ r1) Try.underlying45 rfl hZi)) rfl ⟨rfl, setRow_below g1 _ _ (by omega)⟩
end Go.Proofs.Ytgkiehefneamcaa.Cod
