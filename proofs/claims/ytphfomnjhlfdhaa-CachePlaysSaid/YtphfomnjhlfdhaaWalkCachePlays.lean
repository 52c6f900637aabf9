/- CachePlays: the walk. -/
import Derived.Test.YtphfomnjhlfdhaaCaPlay
import Derived.Test.YtphfomnjhlfdhaaWalkCacheSmall
import Derived.Test.YtphfomnjhlfdhaaOpenRows
namespace Go.Proofs.Ytphfomnjhlfdhaa.Cod
open Go.RowKit
abbrev ActV := Int × Int × ByteArray
def ac (a : ActV) : List Value := [.int .i64 a.1, .int .i64 a.2.1, .string a.2.2]
theorem ac_len (a : ActV) : (ac a).length = 3 := rfl
structure PInv (w0 w : World) (S : List Nat) (c : Nat) (L : PL) (A : Option Addr) (most hits gets : Int) : Prop where
  cac : Cac w S c L most hits gets
  row : RowsAt pc 2 w A L
  len : (L.length : Int) ≤ most
  rowN : ∀ ad, A = some ad → ad.block ∉ S ∧ ad.block < w.heap.size ∧ w0.heap.size ≤ ad.block
  new : ∀ a ∈ S, w0.heap.size ≤ a
  below : Below w0.heap.size w0 w
  h0 : 0 ≤ hits
  h1 : hits ≤ gets
theorem PInv.below' {w0 w w' : World} {S : List Nat} {c : Nat} {L : PL} {A : Option Addr} {most hits gets : Int} (h : PInv w0 w S c L A most hits gets) (b : Below w.heap.size w w') : PInv w0 w' S c L A most hits gets :=
  ⟨h.cac.below b, h.row.below b rfl, h.len, fun ad e => ⟨(h.rowN ad e).1, Nat.lt_of_lt_of_le (h.rowN ad e).2.1 b.size, (h.rowN ad e).2.2⟩, h.new, h.below.trans (b.mono h.below.size), h.h0, h.h1⟩
/-- a list of the document's own, then a call of the cache's -/
theorem PInv.use_call {w0 w5 w6 w8 : World} {S S0 S' : List Nat} {c : Nat} {L L' : PL} {A A' : Option Addr} {most hits gets hits' gets' : Int} (h : PInv w0 w5 S c L A most hits gets) (b : Below w5.heap.size w5 w6) (row : RowsAt pc 2 w6 A' L')
    (hge : ∀ ad, A' = some ad → w5.heap.size ≤ ad.block ∧ ad.block < w6.heap.size ∧ ad.block ∉ S0) (t : Touch S0 w6 w8) (hS0 : ∀ a ∈ S0, w0.heap.size ≤ a) (hc : Cac w8 S' c L' most hits' gets') (f : Foot w6 S S') (hl : (L'.length : Int) ≤ most) (g0 : 0 ≤ hits') (g1 : hits' ≤ gets') : PInv w0 w8 S' c L' A' most hits' gets' :=
  ⟨hc, row.touch t fun ad e => (hge ad e).2.2, hl, fun ad e => by
    obtain ⟨q1, q2, _⟩ := hge ad e
    refine ⟨f.out q2 (fun hm => ?_), Nat.lt_of_lt_of_le q2 t.size, Nat.le_trans h.below.size q1⟩
    have := h.cac.lt _ hm
    omega, f.ge h.new (Nat.le_trans h.below.size b.size), (h.below.trans (b.mono h.below.size)).trans (t.below hS0 (Nat.le_trans h.below.size b.size)), g0, g1⟩
/-- a call of the cache's alone -/
theorem PInv.call {w0 w5 w8 : World} {S S0 S' : List Nat} {c : Nat} {L : PL} {A : Option Addr} {most hits gets : Int} (h : PInv w0 w5 S c L A most hits gets)
    (t : Touch S0 w5 w8) (hS0 : ∀ a ∈ S0, w0.heap.size ≤ a) (hA : ∀ ad, A = some ad → ad.block ∉ S0) (f : Foot w5 S S') :
    RowsAt pc 2 w8 A L ∧ Below w0.heap.size w0 w8 ∧ (∀ a ∈ S', w0.heap.size ≤ a) ∧ ∀ ad, A = some ad → ad.block ∉ S' ∧ ad.block < w8.heap.size ∧ w0.heap.size ≤ ad.block :=
  ⟨h.row.touch t hA, h.below.trans (t.below hS0 h.below.size), f.ge h.new h.below.size, fun ad e => by
    obtain ⟨q1, q2, q3⟩ := h.rowN ad e
    exact ⟨f.out q2 q1, Nat.lt_of_lt_of_le q2 t.size, q3⟩⟩
/-- then a list of the document's own -/
theorem PInv.call_use {w0 w8 w9 : World} {S' : List Nat} {c : Nat} {L' : PL} {A' : Option Addr} {most hits' gets' : Int} (hc : Cac w8 S' c L' most hits' gets') (hn : ∀ a ∈ S', w0.heap.size ≤ a) (hb : Below w0.heap.size w0 w8) (b : Below w8.heap.size w8 w9) (row : RowsAt pc 2 w9 A' L')
    (hge : ∀ ad, A' = some ad → w8.heap.size ≤ ad.block ∧ ad.block < w9.heap.size) (hl : (L'.length : Int) ≤ most) (g0 : 0 ≤ hits') (g1 : hits' ≤ gets') : PInv w0 w9 S' c L' A' most hits' gets' :=
  ⟨hc.below b, row, hl, fun ad e => by
    obtain ⟨q1, q2⟩ := hge ad e
    refine ⟨fun hm => ?_, q2, Nat.le_trans hb.size q1⟩
    have := hc.lt _ hm
    omega, hn, hb.trans (b.mono hb.size), g0, g1⟩
theorem rows_lt {f : ByteArray × Int → List Value} {n : Nat} {w : World} {A : Option Addr} {l : PL} (h : RowsAt f n w A l) (hl : 0 < l.length) {ad : Addr} (e : A = some ad) : ad.block < w.heap.size := by
  obtain ⟨ad', e', hlt, _⟩ := h 0 hl
  obtain rfl : ad' = ad := by rw [e] at e'; injection e' with e'; exact e'.symm
  exact hlt
theorem use_len (l : PL) (k : ByteArray) (v : Int) (most : Int) (h : 1 ≤ most) : 0 < ((luse l k v).take most.toNat).length ∧ (((luse l k v).take most.toNat).length : Int) ≤ most := by
  rw [List.length_take]
  unfold luse
  rw [List.length_cons]
  omega
theorem keys_row {w : World} {B n : Nat} {v : Value} {l : PL} (hn : l.length = n) (h : w.ownsRow B 9 1 v n (l.map fun p => .string p.1)) : ∃ A c, v = .slice A n c ∧ RowsAt (fun p : ByteArray × Int => [Value.string p.1]) 1 w A l := by
  subst hn
  have e : l.flatMap (fun p : ByteArray × Int => [Value.string p.1]) = l.map fun p => .string p.1 := by
    clear h
    induction l with
    | nil => rfl
    | cons p l ih => simpa [List.flatMap_cons] using ih
  obtain ⟨A, c, h1, _, _, h2⟩ := rows_of_own (f := fun p : ByteArray × Int => [Value.string p.1]) (n := 1) (fun _ => rfl) (by rw [e]; exact h)
  exact ⟨A, c, h1, h2⟩
def KeysRel (w0 : World) (c : Nat) (S : List Nat) (L : PL) (A A10 : Option Addr) (most hits gets : Int) (n : Nat) (i : Value) (wx : World) : Prop :=
  ∃ m : Nat, m ≤ n ∧ i = .int .i64 m ∧ PInv w0 wx S c L A most hits gets ∧ RowsAt (fun p : ByteArray × Int => [Value.string p.1]) 1 wx A10 L
def PlayRel (w0 : World) (c : Nat) (most : Int) (n : Nat) (s6 s7 s8 i : Value) (wr : World) : Prop :=
  ∃ j : Nat, j ≤ n ∧ j ≤ 100 ∧ i = .int .i64 j ∧ ∃ S L A cp hits gets, s6 = .slice A L.length cp ∧ s7 = .int .i64 hits ∧ s8 = .int .i64 gets ∧ PInv w0 wr S c L A most hits gets ∧ gets ≤ j
set_option maxHeartbeats 16000000 in
set_option maxRecDepth 100000 in
theorem W_CachePlays (n : Int) (hn1 : n ≤ 9223372036854775807) (hn0 : -9223372036854775808 ≤ n) (A : Option Addr) (cap : Nat) (acts : List ActV) (hmax : acts.length ≤ maxLen) (w : World) (hT : RowsAt ac 3 w A acts) :
    Calls Try.prog 5 #[.int .i64 n, .slice A acts.length cap] w fun e w' => e = .returned (.bool true) ∧ Below w.heap.size w w' := by
  unfold maxLen at hmax
  have HT := Lib.hid hT
  clear hT
  go_enter Try.func5, Try.ntmps5
  go_wp2_with (go_at_call 6; ((with_reducible refine (C_awake12 _).mono ?_); rintro e w1 ⟨rfl, f1⟩))
  go_at_call 7
  with_reducible refine (C_new _ _).mono ?_
  rintro e w2 ⟨c, S2, rfl, hc2, f2, n2⟩
  obtain ⟨most, hm⟩ : ∃ m : Int, max 1 (max (-1) (min n 12)) = m := ⟨_, rfl⟩
  have hm2 : max 1 (min (max (-1) (min n 12)) 1024) = most := by omega
  have hm12 : most ≤ 12 ∧ 1 ≤ most := by omega
  rw [hm2] at hc2
  have hI : PInv w1 w2 S2 c [] none most 0 0 := ⟨hc2, rows_nil _ _, by simp; omega, (fun ad e => by cases e), n2, f2, by omega, by omega⟩
  have HI := Lib.hid hI
  have HF1 := Lib.hid f1
  clear hc2 f1 f2 n2 hI hm2
  go_wp2_with fail
  clear hm
  go_loopw [6, 7, 8, 9] (fun s6 s7 s8 i wr => PlayRel w1 c most acts.length s6 s7 s8 i wr) (fun _ _ _ i _ => 100 - (intOf i).toNat)
  case atStart => exact ⟨0, by omega, by omega, rfl, S2, [], none, 0, 0, 0, rfl, rfl, rfl, HI.out, by omega⟩
  case round =>
    obtain ⟨j, hj, hj100, rfl, S, L, A6, cp, hits, gets, rfl, rfl, rfl, hI, hg⟩ := hrel
    clear HI
    have hL : (L.length : Int) ≤ most := hI.len
    have hh0 := hI.h0
    have hh1 := hI.h1
    by_cases hlt : j < acts.length ∧ j < 100
    · obtain ⟨hl1, hl2⟩ := hlt
      obtain ⟨ad, rfl, hadl, hcs⟩ := HT.out j hl1
      have hB0 := HF1.out.trans (hI.below.mono HF1.out.size)
      have q0 := (hB0.cell (p := caddr (ad.add (j * 3)) 0) (by rw [caddr_block, rblock]; exact hadl)).trans (hcs 0 _ rfl)
      have q1 := (hB0.cell (p := caddr (ad.add (j * 3)) 1) (by rw [caddr_block, rblock]; exact hadl)).trans (hcs 1 _ rfl)
      have q2 := (hB0.cell (p := caddr (ad.add (j * 3)) 2) (by rw [caddr_block, rblock]; exact hadl)).trans (hcs 2 _ rfl)
      generalize acts[j] = a at q0 q1 q2 hcs
      obtain ⟨kind, v, key0⟩ := a
      simp only [caddr, Nat.reduceAdd] at q0 q1 q2
      have hcut : ∀ v, Calls Try.prog 10 #[.string key0, .int .i64 4] v fun e w' => e = .returned (.string (cutB key0 4)) ∧ v = w' := fun v => C_cutB key0 4 (by omega) v
      generalize cutB key0 4 = k at hcut
      have hi0 : (0 : Int) ≤ (j : Int) := by omega
      have hi1 : (j : Int) < (acts.length : Int) := by omega
      have hi2 : (j : Int) < 100 := by omega
      have hba : Below wr.heap.size wr ((wr.alloc (.cells #[.int .i64 kind, .int .i64 v, .string key0] 42)).alloc (.cells #[.string k] 9)) := ((Below.refl _ _).alloc (Nat.le_refl _) _).alloc (by simp) _
      have hRG := R_get A6 cp L k _ (hI.row.below hba rfl) (by omega)
      have hbk : ((wr.alloc (.cells #[.int .i64 kind, .int .i64 v, .string key0] 42)).alloc (.cells #[.string k] 9)).heap[wr.heap.size + 1]? = some (.cells #[.string k] 9 (0, 0)) := push_new (by simp)
      have hbA : ((wr.alloc (.cells #[.int .i64 kind, .int .i64 v, .string key0] 42)).alloc (.cells #[.string k] 9)).heap[wr.heap.size]? = some (.cells #[.int .i64 kind, .int .i64 v, .string key0] 42 (0, 0)) := (push_old (by simp)).trans (push_new rfl)
      have HII := Lib.hid (hI.below' hba)
      have HBK := Lib.hid hbk
      have HBA := Lib.hid hbA
      have hSlt : ∀ a ∈ S, a < wr.heap.size := hI.cac.lt
      have HSL := Lib.hid hSlt
      have hAlt : ∀ a, A6 = some a → a.block < wr.heap.size := fun a e => (hI.rowN a e).2.1
      have HAL := Lib.hid hAlt
      clear hcs hB0 hadl hI hba hbk hbA hSlt hAlt
      go_wp2_with (go_at_call 10; ((with_reducible refine (hcut _).mono ?_); rintro e w4 ⟨rfl, rfl⟩))
      have HC := Lib.hid hcut
      clear hcut q0 q1 q2
      have hways : (kind = 1 ∧ lfind L k = none) ∨ (kind = 1 ∧ ∃ u, lfind L k = some u) ∨ (kind = 2 ∧ lfind L k = none) ∨ (kind = 2 ∧ ∃ u, lfind L k = some u) ∨ ((kind == 1) = false ∧ (kind == 2) = false) := by
        rcases hq : lfind L k with _ | u
        · by_cases k1 : kind = 1
          · exact .inl ⟨k1, rfl⟩
          · by_cases k2 : kind = 2
            · exact .inr (.inr (.inl ⟨k2, rfl⟩))
            · exact .inr (.inr (.inr (.inr (by simp [k1, k2]))))
        · by_cases k1 : kind = 1
          · exact .inr (.inl ⟨k1, u, rfl⟩)
          · by_cases k2 : kind = 2
            · exact .inr (.inr (.inr (.inl ⟨k2, u, rfl⟩)))
            · exact .inr (.inr (.inr (.inr (by simp [k1, k2]))))
      rcases hways with ⟨rfl, hq⟩ | ⟨rfl, u, hq⟩ | ⟨rfl, hq⟩ | ⟨rfl, u, hq⟩ | ⟨hk1, hk2⟩
      -- Get, nothing kept
      rw [hq] at hRG
      simp only [Option.getD_none, Option.isSome_none] at hRG
      go_at_call 16
      with_reducible refine hRG.mono ?_
      rintro e w5 ⟨rfl, b5⟩
      have i5 := HII.out.below' b5
      have bk5 := (b5.block _ (lt_of_heap HBK.out)).trans HBK.out
      have ba5 := (b5.block _ (lt_of_heap HBA.out)).trans HBA.out
      have kn5 : wr.heap.size + 1 ∉ S := fun hm => by have := HSL.out _ hm; omega
      have an5 : wr.heap.size ∉ S := fun hm => by have := HSL.out _ hm; omega
      have ka5 : ∀ a, A6 = some a → a.block < wr.heap.size := HAL.out
      have z0 := cell_of_row _ _ 0 _ _ _ ba5
      have z1 := cell_of_row _ _ 1 _ _ _ ba5
      have z2 := cell_of_row _ _ 0 _ _ _ bk5
      have KN := Lib.hid kn5
      have AN := Lib.hid an5
      have KA := Lib.hid ka5
      have BK5 := Lib.hid bk5
      have BA5 := Lib.hid ba5
      have I5 := Lib.hid i5
      have S5 := Lib.hid (lt_of_heap bk5)
      have s5 := lt_of_heap bk5
      have hG := C_get w5 i5.cac k (by omega) (by omega) hh0 (by omega)
      unfold GetAt lgot at hG
      rw [hq] at hG
      simp only [Option.getD_none, Option.isSome_none, Bool.false_eq_true, if_false, Int.add_zero] at hG
      clear hRG b5 i5 bk5 ba5 kn5 an5 ka5 hq
      go_wp2_with fail
      go_at_call 15
      with_reducible refine hG.mono ?_
      rintro e w9 ⟨rfl, S9, hc9, t9, f9⟩
      obtain ⟨p1, p2, p3, p4⟩ := I5.out.call t9 I5.out.new (fun ad e => (I5.out.rowN ad e).1) f9
      have HI9 : Hid (PInv w1 w9 S9 c L A6 most hits (gets + 1)) := Lib.hid ⟨hc9, p1, hL, p4, p3, p2, hh0, by omega⟩
      clear p1 p2 p3 p4 hc9 t9 f9 hG z0 z1 z2
      go_upto_region 35 with (fail)
      have hg9 : gets + 1 ≤ ((j + 1 : Nat) : Int) := by push_cast; omega
      have HL9 := Lib.hid HI9.out.len
      clear HL9
      generalize L = L9 at HI9 ⊢
      generalize A6 = A9 at HI9 ⊢
      generalize cp = cp9
      generalize gets + 1 = gets9 at HI9 hg9 ⊢
      generalize hits = hits9 at HI9 ⊢
      rotate_left
      -- Get, kept
      rw [hq] at hRG
      simp only [Option.getD_some, Option.isSome_some] at hRG
      go_at_call 16
      with_reducible refine hRG.mono ?_
      rintro e w5 ⟨rfl, b5⟩
      have i5 := HII.out.below' b5
      have bk5 := (b5.block _ (lt_of_heap HBK.out)).trans HBK.out
      have ba5 := (b5.block _ (lt_of_heap HBA.out)).trans HBA.out
      have kn5 : wr.heap.size + 1 ∉ S := fun hm => by have := HSL.out _ hm; omega
      have an5 : wr.heap.size ∉ S := fun hm => by have := HSL.out _ hm; omega
      have ka5 : ∀ a, A6 = some a → a.block < wr.heap.size := HAL.out
      have z0 := cell_of_row _ _ 0 _ _ _ ba5
      have z1 := cell_of_row _ _ 1 _ _ _ ba5
      have z2 := cell_of_row _ _ 0 _ _ _ bk5
      have KN := Lib.hid kn5
      have AN := Lib.hid an5
      have KA := Lib.hid ka5
      have BK5 := Lib.hid bk5
      have BA5 := Lib.hid ba5
      have I5 := Lib.hid i5
      have S5 := Lib.hid (lt_of_heap bk5)
      have s5 := lt_of_heap bk5
      have hU := R_use A6 cp L most k u w5 i5.row (by omega) hm12.2 (by omega)
      obtain ⟨hu1, hu2⟩ := use_len L k u most hm12.2
      obtain ⟨L7, hL7⟩ : ∃ L7, (luse L k u).take most.toNat = L7 := ⟨_, rfl⟩
      rw [hL7] at hU hu1 hu2
      have HL7 := Lib.hid hL7
      clear hL7
      have HU1 := Lib.hid hu1
      have HU2 := Lib.hid hu2
      have hle : (luse L k u).take most.toNat = luse L k u := List.take_of_length_le (by
        have := luse_len hq i5.cac.nodup u
        omega)
      have HLE := Lib.hid hle
      have HQ := Lib.hid hq
      clear hRG b5 i5 bk5 ba5 kn5 an5 ka5 hq hu1 hu2 hle
      go_wp2_with fail
      go_at_call 13
      with_reducible refine hU.mono ?_
      rintro e w6 ⟨A7, cp7, rfl, u1, u2, u3⟩
      have hc6 := I5.out.cac.below u3
      have y2 := cell_of_row _ _ 0 _ _ _ ((u3.block _ S5.out).trans BK5.out)
      have y0 := cell_of_row _ _ 0 _ _ _ ((u3.block _ (lt_of_heap BA5.out)).trans BA5.out)
      have hG := C_get w6 hc6 k (by omega) (by omega) hh0 (by omega)
      unfold GetAt lgot at hG
      rw [HQ.out] at hG
      simp only [Option.getD_some, Option.isSome_some, if_true] at hG
      have U1 := Lib.hid u1
      have U2 := Lib.hid u2
      have U3 := Lib.hid u3
      have huu : (u != u) = false := by simp
      clear u1 u2 u3 hc6 hU z0 z1 z2
      go_wp2_with fail
      go_at_call 15
      with_reducible refine hG.mono ?_
      rintro e w9 ⟨rfl, S9, hc9, t9, f9⟩
      have HI9 : Hid (PInv w1 w9 S9 c L7 A7 most (hits + 1) (gets + 1)) := Lib.hid (I5.out.use_call U3.out U1.out (fun ad e => by
        have q1 := U2.out ad e
        refine ⟨q1, rows_lt U1.out HU1.out e, fun hm => ?_⟩
        have := I5.out.cac.lt _ hm
        omega) t9 I5.out.new (by rw [← HL7.out, HLE.out]; exact hc9) f9 HU2.out (by omega) (by omega))
      clear hc9 t9 f9 hG y0 y2
      go_upto_region 35 with (fail)
      have hg9 : gets + 1 ≤ ((j + 1 : Nat) : Int) := by push_cast; omega
      have HL9 := Lib.hid HI9.out.len
      clear HL9
      generalize L7 = L9 at HI9 ⊢
      generalize A7 = A9 at HI9 ⊢
      generalize cp7 = cp9
      generalize gets + 1 = gets9 at HI9 hg9 ⊢
      generalize hits + 1 = hits9 at HI9 ⊢
      rotate_left
      -- Of, nothing kept
      rw [hq] at hRG
      simp only [Option.getD_none, Option.isSome_none] at hRG
      go_at_call 16
      with_reducible refine hRG.mono ?_
      rintro e w5 ⟨rfl, b5⟩
      have i5 := HII.out.below' b5
      have bk5 := (b5.block _ (lt_of_heap HBK.out)).trans HBK.out
      have ba5 := (b5.block _ (lt_of_heap HBA.out)).trans HBA.out
      have kn5 : wr.heap.size + 1 ∉ S := fun hm => by have := HSL.out _ hm; omega
      have an5 : wr.heap.size ∉ S := fun hm => by have := HSL.out _ hm; omega
      have ka5 : ∀ a, A6 = some a → a.block < wr.heap.size := HAL.out
      have z0 := cell_of_row _ _ 0 _ _ _ ba5
      have z1 := cell_of_row _ _ 1 _ _ _ ba5
      have z2 := cell_of_row _ _ 0 _ _ _ bk5
      have KN := Lib.hid kn5
      have AN := Lib.hid an5
      have KA := Lib.hid ka5
      have BK5 := Lib.hid bk5
      have BA5 := Lib.hid ba5
      have I5 := Lib.hid i5
      have S5 := Lib.hid (lt_of_heap bk5)
      have s5 := lt_of_heap bk5
      have HQ := Lib.hid hq
      have hbm : (w5.alloc (.cells #[.int .i64 0] 3)).heap[w5.heap.size]? = some (.cells #[.int .i64 0] 3 (0, 0)) := push_new rfl
      have hb9 : Below w5.heap.size w5 (w5.alloc (.cells #[.int .i64 0] 3)) := (Below.refl _ _).alloc (Nat.le_refl _) _
      have hE : Env3 (w5.alloc (.cells #[.int .i64 0] 3)) S (wr.heap.size + 1) w5.heap.size wr.heap.size k 0 2 v key0 := ⟨(hb9.block _ S5.out).trans BK5.out, hbm, (hb9.block _ (lt_of_heap BA5.out)).trans BA5.out, KN.out, (fun hm => Nat.lt_irrefl _ (I5.out.cac.lt _ hm)), AN.out⟩
      have hO := C_of17 (I5.out.cac.below hb9) hE (by omega) (by omega) hh0 (by omega) hm12.2 hL
      unfold OfAt at hO
      rw [HQ.out] at hO
      dsimp only at hO
      have HB9 := Lib.hid hb9
      clear hRG b5 i5 bk5 ba5 kn5 an5 ka5 hq hb9 hbm hE
      go_wp2_with fail
      go_at_call 9
      with_reducible refine hO.mono ?_
      rintro e w8 ⟨S8, t8, f8, rfl, hc8, E8⟩
      obtain ⟨p1, p2, p3, p4⟩ := (I5.out.below' HB9.out).call t8 (fun a ha => by
        rcases List.mem_cons.1 ha with rfl | ha
        · exact I5.out.below.size
        · exact I5.out.new a ha) (fun ad e hm => by
        rcases List.mem_cons.1 hm with q | hm
        · have := (I5.out.rowN ad e).2.1
          omega
        · exact (I5.out.rowN ad e).1 hm) f8
      have y2 := cell_of_row _ _ 0 _ _ _ E8.kbox
      have y1 := cell_of_row _ _ 0 _ _ _ E8.mbox
      have y3 := cell_of_row _ _ 1 _ _ _ E8.abox
      have hU := R_use A6 cp L most k v w8 p1 (by omega) hm12.2 (by omega)
      obtain ⟨hu1, hu2⟩ := use_len L k v most hm12.2
      obtain ⟨L7, hL7⟩ : ∃ L7, (luse L k v).take most.toNat = L7 := ⟨_, rfl⟩
      rw [hL7] at hU hu1 hu2 hc8
      clear hL7
      have HU1 := Lib.hid hu1
      have HU2 := Lib.hid hu2
      have hvv : (v != v) = false := by simp
      have C8 := Lib.hid hc8
      have P2 := Lib.hid p2
      have P3 := Lib.hid p3
      clear p1 p2 p3 p4 hc8 E8 t8 f8 hO hu1 hu2 z0 z1 z2
      go_wp2_with fail
      go_at_call 13
      with_reducible refine hU.mono ?_
      rintro e w9 ⟨A7, cp7, rfl, u1, u2, u3⟩
      obtain ⟨S9, rfl⟩ : ∃ S9, S9 = S8 := ⟨_, rfl⟩
      have HI9 : Hid (PInv w1 w9 S9 c L7 A7 most hits (gets + 1)) := Lib.hid (PInv.call_use C8.out P3.out P2.out u3 u1 (fun ad e => ⟨u2 ad e, rows_lt u1 HU1.out e⟩) HU2.out hh0 (by omega))
      clear u1 u2 u3 hU y1 y2 y3
      go_upto_region 35 with (fail)
      have hg9 : gets + 1 ≤ ((j + 1 : Nat) : Int) := by push_cast; omega
      have HL9 := Lib.hid HI9.out.len
      clear HL9
      generalize L7 = L9 at HI9 ⊢
      generalize A7 = A9 at HI9 ⊢
      generalize cp7 = cp9
      generalize gets + 1 = gets9 at HI9 hg9 ⊢
      generalize hits = hits9 at HI9 ⊢
      rotate_left
      -- Of, kept
      rw [hq] at hRG
      simp only [Option.getD_some, Option.isSome_some] at hRG
      go_at_call 16
      with_reducible refine hRG.mono ?_
      rintro e w5 ⟨rfl, b5⟩
      have i5 := HII.out.below' b5
      have bk5 := (b5.block _ (lt_of_heap HBK.out)).trans HBK.out
      have ba5 := (b5.block _ (lt_of_heap HBA.out)).trans HBA.out
      have kn5 : wr.heap.size + 1 ∉ S := fun hm => by have := HSL.out _ hm; omega
      have an5 : wr.heap.size ∉ S := fun hm => by have := HSL.out _ hm; omega
      have ka5 : ∀ a, A6 = some a → a.block < wr.heap.size := HAL.out
      have z0 := cell_of_row _ _ 0 _ _ _ ba5
      have z1 := cell_of_row _ _ 1 _ _ _ ba5
      have z2 := cell_of_row _ _ 0 _ _ _ bk5
      have KN := Lib.hid kn5
      have AN := Lib.hid an5
      have KA := Lib.hid ka5
      have BK5 := Lib.hid bk5
      have BA5 := Lib.hid ba5
      have I5 := Lib.hid i5
      have S5 := Lib.hid (lt_of_heap bk5)
      have s5 := lt_of_heap bk5
      have hU := R_use A6 cp L most k u w5 i5.row (by omega) hm12.2 (by omega)
      obtain ⟨hu1, hu2⟩ := use_len L k u most hm12.2
      obtain ⟨L7, hL7⟩ : ∃ L7, (luse L k u).take most.toNat = L7 := ⟨_, rfl⟩
      rw [hL7] at hU hu1 hu2
      have HL7 := Lib.hid hL7
      clear hL7
      have HU1 := Lib.hid hu1
      have HU2 := Lib.hid hu2
      have hle : (luse L k u).take most.toNat = luse L k u := List.take_of_length_le (by
        have := luse_len hq i5.cac.nodup u
        omega)
      have HLE := Lib.hid hle
      have HQ := Lib.hid hq
      clear hRG b5 i5 bk5 ba5 kn5 an5 ka5 hq hu1 hu2 hle
      go_wp2_with fail
      go_at_call 13
      with_reducible refine hU.mono ?_
      rintro e w6 ⟨A7, cp7, rfl, u1, u2, u3⟩
      have hc6 := I5.out.cac.below u3
      have bk6 := (u3.block _ S5.out).trans BK5.out
      have ba6 := (u3.block _ (lt_of_heap BA5.out)).trans BA5.out
      have s6 := lt_of_heap bk6
      have y2 := cell_of_row _ _ 0 _ _ _ bk6
      have y0 := cell_of_row _ _ 0 _ _ _ ba6
      have hbm : (w6.alloc (.cells #[.int .i64 0] 3)).heap[w6.heap.size]? = some (.cells #[.int .i64 0] 3 (0, 0)) := push_new rfl
      have hb9 : Below w6.heap.size w6 (w6.alloc (.cells #[.int .i64 0] 3)) := (Below.refl _ _).alloc (Nat.le_refl _) _
      have hE : Env3 (w6.alloc (.cells #[.int .i64 0] 3)) S (wr.heap.size + 1) w6.heap.size wr.heap.size k 0 2 v key0 := ⟨(hb9.block _ (lt_of_heap bk6)).trans bk6, hbm, (hb9.block _ (lt_of_heap ba6)).trans ba6, KN.out, (fun hm => Nat.lt_irrefl _ (hc6.lt _ hm)), AN.out⟩
      have hO := C_of17 (hc6.below hb9) hE (by omega) (by omega) hh0 (by omega) hm12.2 hL
      unfold OfAt at hO
      rw [HQ.out] at hO
      dsimp only at hO
      have HB9 := Lib.hid hb9
      have U1 := Lib.hid u1
      have U2 := Lib.hid u2
      have U3 := Lib.hid u3
      have huu : (u != u) = false := by simp
      clear u1 u2 u3 hc6 hU z0 z1 z2 hb9 hbm hE bk6 ba6
      go_wp2_with fail
      go_at_call 9
      with_reducible refine hO.mono ?_
      rintro e w9 ⟨S9, t9, f9, rfl, hc9, E9⟩
      have x1 := cell_of_row _ _ 0 _ _ _ E9.mbox
      have HI9 : Hid (PInv w1 w9 S9 c L7 A7 most (hits + 1) (gets + 1)) := Lib.hid (I5.out.use_call (U3.out.trans (HB9.out.mono U3.out.size)) (U1.out.below HB9.out rfl) (fun ad e => by
        have q1 := U2.out ad e
        have q2 := rows_lt U1.out HU1.out e
        refine ⟨q1, Nat.lt_of_lt_of_le q2 HB9.out.size, fun hm => ?_⟩
        rcases List.mem_cons.1 hm with q | hm
        · omega
        · have := I5.out.cac.lt _ hm
          omega) t9 (fun a ha => by
        rcases List.mem_cons.1 ha with rfl | ha
        · exact Nat.le_trans I5.out.below.size U3.out.size
        · exact I5.out.new a ha) (by rw [← HL7.out, HLE.out]; exact hc9) f9 HU2.out (by omega) (by omega))
      clear hc9 t9 f9 hO y0 y2 E9
      go_upto_region 35 with (fail)
      have hg9 : gets + 1 ≤ ((j + 1 : Nat) : Int) := by push_cast; omega
      have HL9 := Lib.hid HI9.out.len
      clear HL9
      generalize L7 = L9 at HI9 ⊢
      generalize A7 = A9 at HI9 ⊢
      generalize cp7 = cp9
      generalize gets + 1 = gets9 at HI9 hg9 ⊢
      generalize hits + 1 = hits9 at HI9 ⊢
      rotate_left
      -- Put
      go_at_call 16
      with_reducible refine hRG.mono ?_
      rintro e w5 ⟨rfl, b5⟩
      have i5 := HII.out.below' b5
      have bk5 := (b5.block _ (lt_of_heap HBK.out)).trans HBK.out
      have ba5 := (b5.block _ (lt_of_heap HBA.out)).trans HBA.out
      have kn5 : wr.heap.size + 1 ∉ S := fun hm => by have := HSL.out _ hm; omega
      have an5 : wr.heap.size ∉ S := fun hm => by have := HSL.out _ hm; omega
      have ka5 : ∀ a, A6 = some a → a.block < wr.heap.size := HAL.out
      have z0 := cell_of_row _ _ 0 _ _ _ ba5
      have z1 := cell_of_row _ _ 1 _ _ _ ba5
      have z2 := cell_of_row _ _ 0 _ _ _ bk5
      have KN := Lib.hid kn5
      have AN := Lib.hid an5
      have KA := Lib.hid ka5
      have BK5 := Lib.hid bk5
      have BA5 := Lib.hid ba5
      have I5 := Lib.hid i5
      have S5 := Lib.hid (lt_of_heap bk5)
      have s5 := lt_of_heap bk5
      have hP := C_put w5 i5.cac k v hm12.2 hL
      clear hRG b5 i5 bk5 ba5 kn5 an5 ka5
      go_wp2_with fail
      go_at_call 12
      with_reducible refine hP.mono ?_
      rintro e w8 ⟨rfl, S8, hc8, t8, f8⟩
      obtain ⟨p1, p2, p3, p4⟩ := I5.out.call t8 I5.out.new (fun ad e => (I5.out.rowN ad e).1) f8
      have y2 := cell_of_row _ _ 0 _ _ _ ((t8.block _ S5.out KN.out).trans BK5.out)
      have y3 := cell_of_row _ _ 1 _ _ _ ((t8.block _ (lt_of_heap BA5.out) AN.out).trans BA5.out)
      have hU := R_use A6 cp L most k v w8 p1 (by omega) hm12.2 (by omega)
      obtain ⟨hu1, hu2⟩ := use_len L k v most hm12.2
      obtain ⟨L7, hL7⟩ : ∃ L7, (luse L k v).take most.toNat = L7 := ⟨_, rfl⟩
      rw [hL7] at hU hu1 hu2 hc8
      clear hL7
      have HU1 := Lib.hid hu1
      have HU2 := Lib.hid hu2
      have C8 := Lib.hid hc8
      have P2 := Lib.hid p2
      have P3 := Lib.hid p3
      clear p1 p2 p3 p4 hc8 t8 f8 hP hu1 hu2 z0 z1 z2
      go_wp2_with fail
      go_at_call 13
      with_reducible refine hU.mono ?_
      rintro e w9 ⟨A7, cp7, rfl, u1, u2, u3⟩
      obtain ⟨S9, rfl⟩ : ∃ S9, S9 = S8 := ⟨_, rfl⟩
      have HI9 : Hid (PInv w1 w9 S9 c L7 A7 most hits gets) := Lib.hid (PInv.call_use C8.out P3.out P2.out u3 u1 (fun ad e => ⟨u2 ad e, rows_lt u1 HU1.out e⟩) HU2.out hh0 (by omega))
      clear u1 u2 u3 hU y2 y3
      go_upto_region 35 with (fail)
      have hg9 : gets ≤ ((j + 1 : Nat) : Int) := by push_cast; omega
      have HL9 := Lib.hid HI9.out.len
      clear HL9
      generalize L7 = L9 at HI9 ⊢
      generalize A7 = A9 at HI9 ⊢
      generalize cp7 = cp9
      generalize gets = gets9 at HI9 hg9 ⊢
      generalize hits = hits9 at HI9 ⊢
      rotate_left
      all_goals
        obtain ⟨n9, hn9⟩ : ∃ n9, List.length L9 = n9 := ⟨_, rfl⟩
        have hLm := HI9.out.len
        have hKc := C_keys w9 HI9.out.cac (by omega)
        rw [hn9] at hKc hLm ⊢
        have HN9 := Lib.hid hn9
        have hn12 : n9 ≤ 12 := by omega
        clear hn9 hLm
        go_wp2_with fail
        go_at_call 14
        with_reducible refine hKc.mono ?_
        rintro e w10 ⟨v10, rfl, o1, o2⟩
        obtain ⟨A10, c10, rfl, hr10⟩ := keys_row HN9.out o1
        have i10 := HI9.out.below' o2
        have hH := C_hits w10 i10.cac
        have HI10 := Lib.hid i10
        have HR10 := Lib.hid hr10
        clear o1 o2 i10 hr10 hKc
        go_wp2_with fail
        go_at_call 18
        with_reducible refine hH.mono ?_
        rintro e w11 ⟨rfl, nq, rfl⟩
        have b11 : Below w10.heap.size w10 (w10.drewN nq) := ⟨rfl, rfl, rfl, Nat.le_refl _, fun _ _ => rfl⟩
        have i11 := HI10.out.below' b11
        have r11 := HR10.out.below b11 rfl
        have hLn := C_len (w10.drewN nq) i11.cac
        rw [HN9.out] at hLn
        have hb1 : ((n9 : Int) != (n9 : Int)) = false := by simp
        have hb2 : (hits9 != hits9) = false := by simp
        have hb3 : (gets9 != gets9) = false := by simp
        have HI11 := Lib.hid i11
        have HR11 := Lib.hid r11
        clear b11 i11 r11 hH HI10 HR10
        go_wp2_with (go_at_call 11; ((with_reducible refine hLn.mono ?_); rintro e w12 ⟨rfl, rfl⟩))
        go_loopw [176] (fun i wx => KeysRel w1 c S9 L9 A9 A10 most hits9 gets9 n9 i wx) (fun i _ => n9 - (intOf i).toNat)
        case atStart => exact ⟨0, by omega, rfl, HI11.out, HR11.out⟩
        case round =>
          obtain ⟨m, hm, rfl, hI, hR⟩ := hrel
          clear HI11 HR11
          by_cases hlm : m < n9
          · have hm0 : (0 : Int) ≤ (m : Int) := by omega
            have hm1 : (m : Int) < (n9 : Int) := by omega
            have hmL : m < List.length L9 := by rw [HN9.out]; exact hlm
            have hal : Below wr.heap.size wr (wr.alloc (.cells (pc L9[m]).toArray PT)) := (Below.refl _ _).alloc (Nat.le_refl _) _
            obtain ⟨ad1, rfl, hl1', hc1⟩ := hI.row m hmL
            obtain ⟨ad2, rfl, hl2', hc2⟩ := hR m hmL
            have q0 := hc1 0 _ rfl
            have q1 := hc1 1 _ rfl
            have p0 := hc2 0 _ rfl
            have hI2 := hI.below' hal
            have hR2 := hR.below hal rfl
            have pl := hl2'
            rw [← rblock ad2 (m * 1)] at pl
            generalize L9[m] = p at q0 q1 p0 hc1 hc2 hal hI2 hR2
            obtain ⟨p, x⟩ := p
            simp only [caddr, Nat.reduceAdd, Nat.mul_one, pc] at q0 q1 p0 hI2 hR2 pl
            have hpp : (p.toList == p.toList) = true := by simp
            have HI2 := Lib.hid hI2
            have HR2 := Lib.hid hR2
            clear hI hR hc1 hc2 hal hI2 hR2 hl1' hl2'
            go_wp2_with fail
            go_quiet (fail)
            go_wp2
            go_roundw
            case rel =>
              refine ⟨m + 1, by omega, by go_num, HI2.out.below' ⟨rfl, rfl, rfl, Nat.le_refl _, fun _ _ => rfl⟩, HR2.out.below ⟨rfl, rfl, rfl, Nat.le_refl _, fun _ _ => rfl⟩ rfl⟩
            case measure => simp [intOf]; omega
          · obtain rfl : m = n9 := by omega
            have HI12 := Lib.hid hI
            have HG9 := Lib.hid hg9
            clear hI hR hlm hg9
            go_wp2
            go_roundw
            case rel => exact ⟨j + 1, by omega, by omega, by go_num, S9, L9, A9, cp9, hits9, gets9, by rw [HN9.out], rfl, rfl, HI12.out, HG9.out⟩
            case measure => simp [intOf]; omega
    · have hend : j = acts.length ∨ j = 100 := by omega
      have HB := Lib.hid (HF1.out.trans (hI.below.mono HF1.out.size))
      clear hI
      rcases hend with rfl | rfl
      · have hnl : ¬ ((acts.length : Int) < (acts.length : Int)) := by omega
        go_wp2
        go_ret
        exact ⟨rfl, HB.out⟩
      · by_cases hq9 : 100 < acts.length
        · have hq9' : (100 : Int) < (acts.length : Int) := by omega
          go_wp2
          go_ret
          exact ⟨rfl, HB.out⟩
        · have hq9'' : ¬ ((100 : Int) < (acts.length : Int)) := by omega
          go_wp2
          go_ret
          exact ⟨rfl, HB.out⟩
/-- how a row opens the calls -/
theorem open_acts {H : Type} {enc : TypeId × Value → H} {w : World} {base : Nat} {A : Option Addr} {len cap : Nat} {d : DataW H} {p : List MemPlace} (h : DataW.Trod enc Try.prog w base (fun _ => true) true 40 (.slice A len cap) d p) :
    ∃ l : List ActV, l.length = len ∧ len ≤ maxLen ∧ RowsAt ac 3 w A l := by
  obtain ⟨l, h1, h2, h3, h4, _⟩ := open_rows (f := ac) (n := 3) (good := fun _ => True) (by decide) ac_len Try.underlying40 (by kernel_rfl) h fun m cs x hx hl => by
    obtain ⟨v0, y0, n0, e0, t0⟩ := struct_field (i := 0) Try.underlying42 hx rfl (by kernel_rfl) (by kernel_rfl) (by omega)
    obtain ⟨v1, y1, n1, e1, t1⟩ := struct_field (i := 1) Try.underlying42 hx rfl (by kernel_rfl) (by kernel_rfl) (by omega)
    obtain ⟨v2, y2, n2, e2, t2⟩ := struct_field (i := 2) Try.underlying42 hx rfl (by kernel_rfl) (by kernel_rfl) (by omega)
    obtain ⟨a, q0, _, _⟩ := DataW.trod_int Try.underlying3 t0
    obtain ⟨b, q1, _, _⟩ := DataW.trod_int Try.underlying3 t1
    obtain ⟨s, q2, _, _⟩ := DataW.trod_string Try.underlying9 t2
    injection q0 with q0
    injection q1 with q1
    injection q2 with q2
    subst q0 q1 q2
    match cs, hl with
    | [c0, c1, c2], _ =>
      simp at e0 e1 e2
      subst e0 e1 e2
      exact ⟨(a, b, s), rfl, trivial⟩
  exact ⟨l, h1, by omega, h4⟩
end Go.Proofs.Ytphfomnjhlfdhaa.Cod
