/- digest.Of. Contract by what it means. -/
import Derived.Test.YtdpkodhfelnedaaDoorPad
import Derived.Test.YtdpkodhfelnedaaDoorNames
import Derived.Lib.Join
namespace Go.Proofs.YtdpkodhfelnedaaDoor.Cod
open Go.RowKit
theorem join_empty (l : List (List UInt8)) : Lib.join l [] = l.flatten := by
  cases l with
  | nil => rfl
  | cons x r =>
    rw [Lib.join_cons, List.flatten_cons]
    congr 1
    unfold Lib.joinTail
    simp
/-- texts, one behind the other, from an address on -/
def TextsAt (w : World) (A : Option Addr) (c : Nat) (xs : List ByteArray) : Prop :=
  xs.length ≤ c ∧ (0 < xs.length → ∃ b o, A = some ⟨b, o, none⟩ ∧ b < w.heap.size ∧ ∀ (j : Nat) x, xs[j]? = some x → w.cell? ⟨b, o + j, none⟩ = some (.string x))
theorem TextsAt.below {w w' : World} {A : Option Addr} {c : Nat} {xs : List ByteArray} (h : TextsAt w A c xs) (hb : Below w.heap.size w w') : TextsAt w' A c xs :=
  ⟨h.1, fun h0 => by
    obtain ⟨b, o, e, hlt, hc⟩ := h.2 h0
    exact ⟨b, o, e, Nat.lt_of_lt_of_le hlt hb.size, fun j x hx => (hb.cell (p := ⟨b, o + j, none⟩) hlt).trans (hc j x hx)⟩⟩
def allOf (xs : List ByteArray) : List UInt8 := (xs.map bl).flatten
theorem C_join (A : Option Addr) (c : Nat) (xs : List ByteArray) (w : World) (h : TextsAt w A c xs) (hN : xs.length ≤ 1000000) (hlen : (allOf xs).length ≤ 140737488350000) :
    Calls Tryd.prog 34 #[.slice A xs.length c, .string ⟨#[]⟩] w fun e w' => e = .returned (.string (S (allOf xs))) ∧ Below w.heap.size w w' := by
  rcases Nat.eq_zero_or_pos xs.length with h0 | h0
  · have hx : xs = [] := List.eq_nil_of_length_eq_zero h0
    subst hx
    exact (Tryd.strings_Join_none A c ⟨#[]⟩ w).mono fun e w' ⟨h1, h2⟩ => ⟨h1, by rw [h2]; exact Below.refl _ _⟩
  · obtain ⟨b, o, rfl, hb, hc⟩ := h.2 h0
    have e : Lib.join (xs.map (·.data.toList)) (⟨#[]⟩ : ByteArray).data.toList = allOf xs := join_empty _
    refine (Tryd.strings_Join b o c xs ⟨#[]⟩ w hc hb (by omega) h.1 (by rw [e]; omega)).mono fun e' w' ⟨h1, h2⟩ => ⟨?_, h2⟩
    rw [h1, e]; rfl
theorem bl_prefix (s : ByteArray) (n : Nat) (h : n ≤ s.size) : (s.extract 0 n).size = n := by simp; omega
def OfRel (w : World) (P : List UInt8) (B : Nat) (s : Value) (wr : World) : Prop :=
  ∃ (n : Nat) (h : S8) (t : ByteArray), s = .string t ∧ t.size = 64 * n ∧ t.size ≤ 140737488351232 ∧ h.ok ∧ blks n h (bl t) = blks (P.length / 64) H0 P ∧ wr.heap[B + 1]? = some (.cells (cells8 h) 70 (0, 0)) ∧ Below B w wr ∧ Laid wr ∧ B + 1 < wr.heap.size ∧ wr.heap[B]? = some (.cells Z32 36 (0, 0))
def outC (D : List UInt8) (k : Nat) : Array Value := (Lib.byteCells (D.take k ++ List.replicate (32 - k) 0)).toArray
theorem outC_zero (D : List UInt8) : outC D 0 = Z32 := rfl
theorem outC_full (D : List UInt8) (h : D.length = 32) : outC D 32 = (Lib.byteCells D).toArray := by
  unfold outC
  rw [List.take_of_length_le (by omega)]
  simp
theorem outC_at (D : List UInt8) (k : Nat) (h : D.length = 32) (hk : k < 32) : (outC D k)[k]? = some (.int .u8 0) := by
  unfold outC
  rw [byteCells_get (x := 0)]
  · rfl
  · rw [List.getElem?_append_right (by rw [List.length_take]; omega), List.length_take, show k - min k D.length = 0 by omega, List.getElem?_replicate, if_pos (by omega)]
theorem outC_set (D : List UInt8) (k : Nat) (x : UInt8) (hk : k < 32) (h : D[k]? = some x) : (outC D k).setIfInBounds k (.int .u8 x.toNat) = outC D (k + 1) := by
  have hlt := (List.getElem?_eq_some_iff.1 h).1
  unfold outC Lib.byteCells
  rw [List.setIfInBounds_toArray, List.take_add_one, h, List.map_append, List.set_append_right _ _ (by rw [List.length_map, List.length_take]; omega), List.length_map, List.length_take, show k - min k D.length = 0 by omega, show 32 - k = (32 - (k + 1)) + 1 by omega, List.replicate_succ]
  simp
theorem out_byte (h : S8) (i : Nat) (hi : i < 32) : ∃ a, h.list[i / 4]? = some a ∧ (h.list.flatMap out4)[i]? = some (UInt8.ofNat (a / 2 ^ (24 - i % 4 * 8) % 256)) := by
  obtain ⟨a0, a1, a2, a3, a4, a5, a6, a7⟩ := h
  have key : ∀ (q r : Nat) (a : Nat), r < 4 → (S8.list ⟨a0, a1, a2, a3, a4, a5, a6, a7⟩)[q]? = some a → q < 8 → ((S8.list ⟨a0, a1, a2, a3, a4, a5, a6, a7⟩).flatMap out4)[4 * q + r]? = (out4 a)[r]? := by
    intro q r a hr ha hq
    unfold S8.list at *
    rcases q with _ | _ | _ | _ | _ | _ | _ | _ | q <;> rcases r with _ | _ | _ | _ | r <;> first | omega | (injection ha with ha; subst ha; rfl)
  have ho : ∀ (a r : Nat), r < 4 → (out4 a)[r]? = some (UInt8.ofNat (a / 2 ^ (24 - r * 8) % 256)) := by
    intro a r hr
    have e0 : UInt8.ofNat (a / 16777216) = UInt8.ofNat (a / 16777216 % 256) := by
      apply UInt8.toNat.inj; simp [UInt8.toNat_ofNat']
    rcases r with _ | _ | _ | _ | r
    · show some (UInt8.ofNat (a / 16777216)) = _
      rw [e0]
    · rfl
    · rfl
    · show some (UInt8.ofNat (a % 256)) = some (UInt8.ofNat (a / 2 ^ 0 % 256))
      rw [Nat.pow_zero, Nat.div_one]
    · omega
  have hg : ∃ a, (S8.list ⟨a0, a1, a2, a3, a4, a5, a6, a7⟩)[i / 4]? = some a := ⟨_, List.getElem?_eq_getElem (by rw [list8]; omega)⟩
  obtain ⟨a, ha⟩ := hg
  refine ⟨a, ha, ?_⟩
  have h1 := key (i / 4) (i % 4) a (by omega) ha (by omega)
  rw [show 4 * (i / 4) + i % 4 = i by omega] at h1
  rw [h1, ho a _ (by omega)]
def OutRel (w : World) (h : S8) (B : Nat) (w1 : World) (i : Value) (wr : World) : Prop :=
  ∃ k : Nat, k ≤ 32 ∧ i = .int .i64 k ∧ wr.heap[B + 1]? = some (.cells (cells8 h) 70 (0, 0)) ∧ wr.heap[B]? = some (.cells Z32 36 (0, 0)) ∧ wr.heap[w1.heap.size]? = some (.cells (outC (h.list.flatMap out4) k) 36 (0, 0)) ∧ Below B w wr
set_option maxHeartbeats 4000000 in
set_option maxRecDepth 100000 in
theorem C_dig (A : Option Addr) (c : Nat) (xs : List ByteArray) (w : World) (h : TextsAt w A c xs) (hN : xs.length ≤ 1000000) (hlen : (allOf xs).length ≤ 140737488350000) (hL : Laid w) :
    Calls Tryd.prog 22 #[.slice A xs.length c] w fun e w' => e = .returned (idv (sha (allOf xs))) ∧ Below w.heap.size w w' := by
  obtain ⟨P, eP⟩ : ∃ P, padL (allOf xs) = P := ⟨_, rfl⟩
  have hP1 : P.length % 64 = 0 := by rw [← eP]; exact padL_len _
  have hP2 : P.length ≤ (allOf xs).length + 72 := by rw [← eP]; exact padL_size _
  have hsha : sha (allOf xs) = (blks (P.length / 64) H0 P).list.flatMap out4 := by rw [← eP]; rfl
  have hJ := fun v (hv : TextsAt v A c xs) => C_join A c xs v hv hN hlen
  have hsz : (S (allOf xs)).size ≤ 140737488350000 := by rw [S_size]; exact hlen
  have hPd := fun v => C_pad (S (allOf xs)) hsz v
  rw [bl_S, eP] at hPd
  have HS := Lib.hid hsha
  have HL := Lib.hid hL
  obtain ⟨T0, hT0⟩ := hL.1
  have HT0 := Lib.hid hT0
  clear hT0
  have HT := Lib.hid h
  have hz := hL.size
  obtain ⟨n, en⟩ : ∃ n, xs.length = n := ⟨_, rfl⟩
  rw [en] at hJ ⊢
  have hP3 : P.length ≤ 140737488350072 := by omega
  clear hsha hL h hN hlen eP en hsz
  have hi8 : ∀ x : S8, (Tryd.prog.info? 70).map (·.size) = some (cells8 x).size := fun x => by show _ = some 8; kernel_rfl
  have hone8 : ∀ x : S8, (cells8 x).all (·.oneCell') = true := fun x => by rw [← words8]; exact wordsA_one _
  have H8 := Lib.hid hi8
  have HO := Lib.hid hone8
  clear hi8 hone8
  obtain ⟨Y, eY⟩ : ∃ Y, S (allOf xs) = Y := ⟨_, rfl⟩
  rw [eY] at hPd
  simp only [eY] at hJ
  clear eY
  obtain ⟨SP, eSP⟩ : ∃ SP, S P = SP := ⟨_, rfl⟩
  simp only [eSP] at hPd
  have ESP := Lib.hid eSP
  clear eSP
  obtain ⟨c0, ec0⟩ : ∃ c0, cells8 H0 = c0 := ⟨_, rfl⟩
  have hi0 := H8.out H0
  rw [ec0] at hi0
  have EC0 := Lib.hid ec0
  clear ec0
  go_enter Tryd.func22, Tryd.ntmps22
  go_wp2_with (first
    | (refine wpList_load_row (by rfl) 70 (.global 0) (by rfl) 0 (by rfl) T0 c0 (0, 0) _ ((Below.heap_alloc _ _ _ (by omega)).trans (by rw [← EC0.out]; exact HT0.out)) Tryd.underlying70 rfl hi0 ?_)
    | (refine wpList_store_new (by rfl) 70 (.tmp 3) (.tmp 7) (by rfl) (w.heap.size + 1) (by simp) c0 (cells8 ⟨0, 0, 0, 0, 0, 0, 0, 0⟩) 70 (by rfl) (by rfl) hi0 (by rw [← EC0.out, cells8_size, cells8_size]) (by rw [← EC0.out]; exact HO.out _) ?_)
    | (go_at_call 34; ((with_reducible refine (hJ _ (by exact HT.out.below (((Below.refl _ _).alloc (Nat.le_refl _) _).alloc (by simp) _))).mono ?_); rintro e w1 ⟨rfl, h1⟩))
    | (go_at_call 33; ((with_reducible refine (hPd _).mono ?_); rintro e w2 ⟨rfl, h2⟩)))
  go_loopw [4] (fun s wr => OfRel w P w.heap.size s wr) (fun s _ => match s with | .string t => t.size | _ => 0)
  case atStart =>
    have hb1 : Below w.heap.size w w1 := (((Below.refl _ _).alloc (Nat.le_refl _) _).alloc (by simp) _).trans (h1.mono (by simp; omega))
    have hb2 : Below w.heap.size w w2 := hb1.trans (h2.mono hb1.size)
    have hz1 : w.heap.size + 2 ≤ w1.heap.size := by have := h1.size; simpa using this
    have hS : SP.size = P.length := by rw [← ESP.out, S_size]
    refine ⟨P.length / 64, H0, SP, rfl, by omega, by omega, H0_ok, by rw [← ESP.out, bl_S], ?_, hb2, HL.out.below hb2 hz, by have := h2.size; omega, ?_⟩
    · rw [h2.block _ (by omega), h1.block _ (by rw [World.size_alloc, World.size_alloc]; omega), EC0.out]
      exact heap_alloc2_new _ _ _
    · rw [h2.block _ (by omega), h1.block _ (by rw [World.size_alloc, World.size_alloc]; omega)]
      exact heap_alloc2_old _ _ _
  case round =>
    obtain ⟨m, h, t, rfl, ht, hts, hok, hbl, hg, hb, hl, hzr, hr0⟩ := hrel
    have HBL := Lib.hid hbl
    have HG := Lib.hid hg
    have HR := Lib.hid hr0
    have HLW := Lib.hid hl
    clear hbl hg hr0 hl
    rcases m with _ | m
    · have hn := toList_nil (s := t) (by omega)
      have hfin : blks (P.length / 64) H0 P = h := HBL.out.symm
      have HF := Lib.hid hfin
      clear hfin
      obtain ⟨wo, rfl⟩ : ∃ wo : World, wo = wr := ⟨_, rfl⟩
      go_wp2
      go_loopw [19] (fun i v => OutRel w h w.heap.size wo i v) (fun i _ => 32 - (intOf i).toNat)
      case atStart =>
        refine ⟨0, by omega, rfl, (Below.heap_alloc _ _ _ (by omega)).trans HG.out, (Below.heap_alloc _ _ _ (by omega)).trans HR.out, heap_alloc_new _ _, hb.alloc (by omega) _⟩
      case round =>
        obtain ⟨k, hk, rfl, q3, q2, q5, qb⟩ := hrel
        by_cases hlt : k < 32
        · obtain ⟨a, ha, hD⟩ := out_byte h k hlt
          have hlen : (h.list.flatMap out4).length = 32 := rfl
          obtain ⟨D, eD⟩ : ∃ D, h.list.flatMap out4 = D := ⟨_, rfl⟩
          rw [eD] at hD hlen q5
          have ED := Lib.hid eD
          clear eD
          obtain ⟨q, eq⟩ : ∃ q, q = k / 4 := ⟨_, rfl⟩
          obtain ⟨r, er⟩ : ∃ r, r = k % 4 := ⟨_, rfl⟩
          obtain ⟨s, es⟩ : ∃ s, s = 24 - r * 8 := ⟨_, rfl⟩
          rw [← eq] at ha
          rw [← er, ← es] at hD
          have hq : (k : Int) / 4 = (q : Int) := by omega
          have hr : (k : Int) % 4 = (r : Int) := by omega
          have hs : (24 : Int) - (r : Int) * 8 = (s : Int) := by omega
          have hs1 : IntKind.i64.wrap ((r : Int) * 8) = (r : Int) * 8 := IntWalk.i64_in _ (by omega)
          have hq0 : (0 : Int) ≤ (q : Int) := by omega
          have hq8 : (q : Int) < 8 := by omega
          have hr0 : (0 : Int) ≤ (r : Int) := by omega
          have hr4 : (r : Int) < 4 := by omega
          have hs0 : (0 : Int) ≤ (s : Int) := by omega
          have hs24 : (s : Int) ≤ 24 := by omega
          have c1 : wr.cell? ⟨w.heap.size + 1, q, none⟩ = some (.int .u32 (a : Nat)) := (cell_of_row _ _ _ _ _ _ q3).trans (by rw [← words8]; exact wordsA_get _ _ _ ha)
          have c2 : wr.cell? ⟨wo.heap.size, k, none⟩ = some (.int .u8 0) := (cell_of_row _ _ _ _ _ _ q5).trans (outC_at D k hlen hlt)
          have f2 : wr.frozen? ⟨wo.heap.size, k, none⟩ = false := frozen_of_row _ _ _ _ _ q5
          have k0 : (0 : Int) ≤ (k : Int) := by omega
          have k32 : (k : Int) < 32 := by omega
          have Q3 := Lib.hid q3
          have Q2 := Lib.hid q2
          have Q5 := Lib.hid q5
          have HD := Lib.hid hD
          clear q3 q2 q5 hD ha eq er es
          go_wp2
          go_roundw
          case rel =>
            have hval : ((a : Int) / 2 ^ s % 256) = ((UInt8.ofNat (a / 2 ^ s % 256)).toNat : Int) := by
              rw [toNat_ofNat _ (by omega)]
              simp
            refine ⟨k + 1, by omega, by go_num, ?_, ?_, ?_, qb.setCell (by simp; omega) _⟩
            · exact (heap_setCell_other _ _ _ _ (by simp; omega)).trans Q3.out
            · exact (heap_setCell_other _ _ _ _ (by simp; omega)).trans Q2.out
            · rw [ED.out]
              exact (heap_setCell_same _ _ _ _ _ _ Q5.out).trans (by rw [hval, outC_set D k _ hlt HD.out])
          case measure => simp [intOf]; omega
        · obtain rfl : k = 32 := by omega
          have hlen : (h.list.flatMap out4).length = 32 := rfl
          rw [outC_full _ hlen] at q5
          have hi : (Tryd.prog.info? 36).map (·.size) = some (Lib.byteCells (h.list.flatMap out4)).toArray.size := by rw [List.size_toArray, Lib.byteCells_length, hlen]; kernel_rfl
          have hone : (Lib.byteCells (h.list.flatMap out4)).toArray.all (·.oneCell') = true := all_oneCell_toArray (all_one _)
          obtain ⟨D, eD⟩ : ∃ D, (Lib.byteCells (h.list.flatMap out4)).toArray = D := ⟨_, rfl⟩
          have hsD : Z32.size = D.size := by rw [← eD]; rfl
          rw [eD] at q5 hi hone
          have hfin : idv (sha (allOf xs)) = .agg D := by unfold idv; rw [HS.out, HF.out, eD]
          have HFIN := Lib.hid hfin
          have Q2 := Lib.hid q2
          have Q5 := Lib.hid q5
          clear q2 q5 q3 hfin eD hlen
          rw [show ((32 : Nat) : Int) = 32 from rfl]
          go_wp2_with (first
            | (refine wpList_load_row (by rfl) 36 (.tmp 5) (by rfl) wo.heap.size (by rfl) 36 D (0, 0) _ Q5.out Tryd.underlying36 rfl hi ?_)
            | (refine wpList_store_row (by rfl) 36 (.tmp 2) (.tmp 35) (by rfl) w.heap.size D Z32 36 (by rfl) (by rfl) Q2.out hi hsD hone ?_))
          exact bodyPost_ret (results_cell_row rfl _ _ w.heap.size 36 D (0, 0) _ (by rfl) (setRow_heap _ _ _ _ _ _ Q2.out) Tryd.underlying36 rfl hi) rfl ⟨by rw [HFIN.out], setRow_below qb _ _ (Nat.le_refl _)⟩
    · have hn := toList_cons (s := t) (by omega)
      have h64 : 64 ≤ t.size := by omega
      have h64I : (64 : Int) ≤ (t.size : Int) := by omega
      have hms : (t.extract 0 64).size = 64 := bl_prefix t 64 h64
      have hm := fun v (hv : Laid v) => C_mix h hok (t.extract 0 64) hms v hv
      have hi := H8.out h
      have hi' := H8.out (mixS h (t.extract 0 64).data.toList)
      obtain ⟨c1, ec1⟩ : ∃ c1, cells8 h = c1 := ⟨_, rfl⟩
      obtain ⟨c2, ec2⟩ : ∃ c2, cells8 (mixS h (t.extract 0 64).data.toList) = c2 := ⟨_, rfl⟩
      rw [ec1] at hi
      rw [ec2] at hi'
      simp only [ec1, ec2] at hm
      have E1 := Lib.hid ec1
      have E2 := Lib.hid ec2
      clear ec1 ec2 hms
      have hgd : wr.drew.heap[w.heap.size + 1]? = some (.cells c1 70 (0, 0)) := by rw [heap_drew, ← E1.out]; exact HG.out
      have hrd : wr.drew.heap[w.heap.size]? = some (.cells Z32 36 (0, 0)) := by rw [heap_drew]; exact HR.out
      have hzd : w.heap.size < wr.drew.heap.size := by rw [heap_drew]; omega
      have HGD := Lib.hid hgd
      have HRD := Lib.hid hrd
      clear hgd hrd
      have ht' : t.size = 64 * m + 64 := by omega
      have HTS := Lib.hid ht'
      clear ht ht'
      go_wp2
      refine region_tail 3 (by kernel_rfl) (by kernel_rfl) ?_
      simp only [List.take_succ_cons, List.take_zero, List.drop_succ_cons, List.drop_zero]
      refine still_load_row (by rfl) 70 (.tmp 3) (by rfl) (w.heap.size + 1) (by rfl) 70 c1 (0, 0) _ (by rw [← E1.out]; exact HG.out) Tryd.underlying70 rfl hi ?_
      still_step
      still_step
      refine wpStill_nil ?_
      go_wp2_with (first
        | (go_at_call 35; ((with_reducible refine (hm _ HLW.out.drew).mono ?_); rintro e w3 ⟨rfl, h3⟩; have g3 := Lib.hid ((h3.block (w.heap.size + 1) hzr).trans HGD.out); have g0 := Lib.hid ((h3.block w.heap.size hzd).trans HRD.out)))
        | (refine wpList_store_row (by rfl) 70 (.tmp 3) (.tmp 18) (by rfl) (w.heap.size + 1) c2 c1 70 (by rfl) (by rfl) g3.out hi' (by rw [← E2.out, ← E1.out, cells8_size, cells8_size]) (by rw [← E2.out]; exact HO.out _) ?_))
      go_roundw
      case rel =>
        have h2x : Below 2 wr.drew w3 := h3.mono (by have := HL.out.size; simp; omega)
        have hbw : Below w.heap.size w w3 := hb.drew.trans (h3.mono (by simp; omega))
        have hz3 : wr.heap.size ≤ w3.heap.size := h3.size
        refine ⟨m, mixS h (t.extract 0 64).data.toList, _, rfl, ?_, ?_, mixS_ok _ _, ?_, ?_, setRow_below hbw _ _ (by omega), ?_, ?_, ?_⟩
        · rw [show (t.extract 64 t.size).size = t.size - 64 by simp]; have := HTS.out; omega
        · rw [show (t.extract 64 t.size).size = t.size - 64 by simp]; omega
        · rw [bl_drop, ← HBL.out]
          have e1 : (t.extract 0 64).data.toList = (bl t).take 64 := bl_take t 64
          rw [e1]; rfl
        · rw [E2.out]; exact setRow_heap _ _ _ _ _ _ g3.out
        · exact (HLW.out.drew.below h2x (Nat.le_refl _)).below (setRow_below (Below.refl 2 w3) _ _ (by omega)) (Nat.le_refl _)
        · rw [size_setRow]; omega
        · exact (setRow_other _ _ _ _ (by omega)).trans g0.out
      case measure => simp; omega
end Go.Proofs.YtdpkodhfelnedaaDoor.Cod
