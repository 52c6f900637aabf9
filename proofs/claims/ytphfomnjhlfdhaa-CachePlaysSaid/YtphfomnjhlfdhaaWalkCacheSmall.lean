/- CacheSmall: the walk. -/
import Derived.Test.YtphfomnjhlfdhaaCaKeys
import Derived.Test.YtphfomnjhlfdhaaCaRef
import Derived.Test.YtphfomnjhlfdhaaCaAns
import Derived.Test.YtphfomnjhlfdhaaCaAwake
import Derived.Test.YtphfomnjhlfdhaaTexts
namespace Go.Proofs.Ytphfomnjhlfdhaa.Cod
open Go.RowKit
theorem RowsAt.touch {α : Type} {f : α → List Value} {n : Nat} {w w1 : World} {A : Option Addr} {l : List α} {S : List Nat} (h : RowsAt f n w A l) (t : Touch S w w1) (hn : ∀ ad, A = some ad → ad.block ∉ S) : RowsAt f n w1 A l := by
  intro i hi
  obtain ⟨ad, rfl, hl, _⟩ := h i hi
  exact (h.of_block (t.block _ hl (hn ad rfl)) t.size) i hi
theorem lfind_luse (l : PL) (k : ByteArray) (v : Int) (q : ByteArray) : lfind (luse l k v) q = if q = k then some v else lfind l q := by
  unfold lfind luse
  by_cases h : q = k
  · subst h
    simp
  · rw [if_neg h, List.find?_cons]
    have h' : ¬ k = q := fun e => h e.symm
    simp only [h', decide_false]
    induction l with
    | nil => rfl
    | cons a l ih =>
      by_cases ha : a.1 = k
      · have haq : ¬ a.1 = q := fun e => h (by rw [← e, ha])
        simp only [List.filter_cons, ha, decide_true, Bool.not_true, Bool.false_eq_true, if_false, List.find?_cons]
        rw [ih]
        simp [h']
      · simp only [List.filter_cons, ha, decide_false, Bool.not_false, if_true, List.find?_cons]
        by_cases haq : a.1 = q
        · simp [haq]
        · simp only [haq, decide_false]
          exact ih
theorem lfind_of_mem {l : PL} (hn : (l.map (·.1)).Nodup) {k : ByteArray} {v : Int} (h : (k, v) ∈ l) : lfind l k = some v := by
  obtain ⟨a, b, rfl⟩ := List.append_of_mem h
  refine (split_some (u := v) fun p hp e => ?_).1
  have h1 : ((a ++ (k, v) :: b).map (·.1)).Perm (k :: (a ++ b).map (·.1)) := (List.perm_middle.map _)
  have h2 := h1.nodup_iff.1 hn
  exact (List.nodup_cons.1 h2).1 (by rw [← e]; exact List.mem_map.2 ⟨p, hp, rfl⟩)
/-- both caches and the document's list, between two rounds -/
structure Both (w0 w : World) (S1 S2 : List Nat) (c1 c2 : Nat) (l1 L : PL) (A : Option Addr) : Prop where
  one : Cac w S1 c1 l1 1 0 0
  all : Cac w S2 c2 L 64 0 0
  row : RowsAt pc 2 w A L
  len1 : l1.length ≤ 1
  len : L.length ≤ 64
  apart : ∀ a ∈ S1, a ∉ S2
  rowN : ∀ ad, A = some ad → ad.block ∉ S1 ∧ ad.block ∉ S2 ∧ ad.block < w.heap.size ∧ w0.heap.size ≤ ad.block
  new1 : ∀ a ∈ S1, w0.heap.size ≤ a
  new2 : ∀ a ∈ S2, w0.heap.size ≤ a
  below : Below w0.heap.size w0 w
theorem Foot.ge {w w0 : World} {S S' : List Nat} (f : Foot w S S') (h : ∀ a ∈ S, w0.heap.size ≤ a) (hs : w0.heap.size ≤ w.heap.size) : ∀ a ∈ S', w0.heap.size ≤ a := fun a ha => (f a ha).elim (h a) fun q => Nat.le_trans hs q
/-- a call on the first -/
theorem Both.put1 {w0 w w' : World} {S1 S2 S' : List Nat} {c1 c2 : Nat} {l1 L l' : PL} {A : Option Addr} (h : Both w0 w S1 S2 c1 c2 l1 L A) (hc : Cac w' S' c1 l' 1 0 0) (t : Touch S1 w w') (f : Foot w S1 S') (hl : l'.length ≤ 1) : Both w0 w' S' S2 c1 c2 l' L A :=
  ⟨hc, h.all.touch t fun a ha hb => h.apart a hb ha, h.row.touch t fun ad e => (h.rowN ad e).1, hl, h.len, fun a ha hb => by
    rcases f a ha with q | q
    · exact h.apart a q hb
    · have := h.all.lt a hb; omega, fun ad e => by
      obtain ⟨q1, q2, q3, q4⟩ := h.rowN ad e
      exact ⟨f.out q3 q1, q2, Nat.lt_of_lt_of_le q3 t.size, q4⟩, f.ge h.new1 h.below.size, h.new2, h.below.trans (t.below h.new1 h.below.size)⟩
theorem Both.put2 {w0 w w' : World} {S1 S2 S' : List Nat} {c1 c2 : Nat} {l1 L : PL} {A : Option Addr} (h : Both w0 w S1 S2 c1 c2 l1 L A) (t : Touch S2 w w') (f : Foot w S2 S') :
    Cac w' S1 c1 l1 1 0 0 ∧ RowsAt pc 2 w' A L ∧ (∀ a ∈ S1, a ∉ S') ∧ (∀ a ∈ S', w0.heap.size ≤ a) ∧ Below w0.heap.size w0 w' ∧ ∀ ad, A = some ad → ad.block ∉ S1 ∧ ad.block ∉ S' ∧ ad.block < w'.heap.size ∧ w0.heap.size ≤ ad.block :=
  ⟨h.one.touch t fun a ha hb => h.apart a ha hb, h.row.touch t fun ad e => (h.rowN ad e).2.1, fun a ha hb => by
    rcases f a hb with q | q
    · exact h.apart a ha q
    · have := h.one.lt a ha; omega, f.ge h.new2 h.below.size, h.below.trans (t.below h.new2 h.below.size), fun ad e => by
      obtain ⟨q1, q2, q3, q4⟩ := h.rowN ad e
      exact ⟨q1, f.out q3 q2, Nat.lt_of_lt_of_le q3 t.size, q4⟩⟩
theorem Cac.below {w w' : World} {S : List Nat} {c : Nat} {l : PL} {most hits gets : Int} (H : Cac w S c l most hits gets) (b : Below w.heap.size w w') : Cac w' S c l most hits gets := H.of_blocks fun a ha => b.block a (H.lt a ha)
theorem Both.below' {w0 w w' : World} {S1 S2 : List Nat} {c1 c2 : Nat} {l1 L : PL} {A : Option Addr} (h : Both w0 w S1 S2 c1 c2 l1 L A) (b : Below w.heap.size w w') : Both w0 w' S1 S2 c1 c2 l1 L A :=
  ⟨h.one.below b, h.all.below b, h.row.below b rfl, h.len1, h.len, h.apart, fun ad e => ⟨(h.rowN ad e).1, (h.rowN ad e).2.1, Nat.lt_of_lt_of_le (h.rowN ad e).2.2.1 b.size, (h.rowN ad e).2.2.2⟩, h.new1, h.new2, h.below.trans (b.mono h.below.size)⟩
theorem own_one {w : World} {B t : Nat} {v u : Value} (h : w.ownsRow B t 1 v 1 [u]) : ∃ g c, v = .slice (some ⟨g, 0, none⟩) 1 c ∧ w.cell? ⟨g, 0, none⟩ = some u := by
  rcases h.2 with ⟨_, h0⟩ | ⟨g, cap, cur, rfl, _, hg, hc⟩
  · omega
  · refine ⟨g, cap, rfl, ?_⟩
    have := h.cells (g := g) rfl 0 u rfl
    rw [Addr.add_mid] at this
    exact this
def SmallRel (w0 : World) (c1 c2 : Nat) (n : Nat) (sv i : Value) (wr : World) : Prop :=
  ∃ j : Nat, j ≤ n ∧ i = .int .i64 j ∧ ∃ S1 S2 l1 L A cp, sv = .slice A L.length cp ∧ Both w0 wr S1 S2 c1 c2 l1 L A
def GotRel (w0 : World) (L : PL) (A : Option Addr) (c2 : Nat) (i : Value) (wx : World) : Prop :=
  ∃ j : Nat, j ≤ L.length ∧ i = .int .i64 j ∧ ∃ S3 L3 hits gets, Cac wx S3 c2 L3 64 hits gets ∧ (∀ q, lfind L3 q = lfind L q) ∧ L3.length = L.length ∧ RowsAt pc 2 wx A L ∧ (∀ ad, A = some ad → ad.block ∉ S3 ∧ ad.block < wx.heap.size ∧ w0.heap.size ≤ ad.block) ∧ (∀ a ∈ S3, w0.heap.size ≤ a) ∧ Below w0.heap.size w0 wx ∧ 0 ≤ hits ∧ hits ≤ gets ∧ gets ≤ j
set_option maxHeartbeats 8000000 in
set_option maxRecDepth 100000 in
theorem W_CacheSmall (A : Option Addr) (cap : Nat) (ss : List ByteArray) (hmax : ss.length ≤ maxLen) (w : World) (hT : TextsAt w A ss) :
    Calls Try.prog 4 #[.slice A ss.length cap] w fun e w' => e = .returned (.bool true) ∧ Below w.heap.size w w' := by
  unfold maxLen at hmax
  have HT := Lib.hid hT
  clear hT
  go_enter Try.func4, Try.ntmps4
  go_wp2_with (go_at_call 6; ((with_reducible refine (C_awake12 _).mono ?_); rintro e w1 ⟨rfl, f1⟩))
  go_at_call 7
  with_reducible refine (C_new _ _).mono ?_
  rintro e w2 ⟨c1, S1, rfl, h2, f2, n2⟩
  have hc1 : Cac w2 S1 c1 [] 1 0 0 := h2
  have HF1 := Lib.hid f1
  clear h2 f1
  go_wp2_with fail
  go_at_call 7
  with_reducible refine (C_new _ _).mono ?_
  rintro e w3 ⟨c2, S2, rfl, h3, f3, n3⟩
  have hc2 : Cac w3 S2 c2 [] 64 0 0 := h3
  have hB : Both w1 w3 S1 S2 c1 c2 [] [] none := ⟨hc1.below f3, hc2, rows_nil _ _, by simp, by simp, fun a ha hb => by have := hc1.lt a ha; have := n3 a hb; omega, (fun ad e => by cases e), n2, fun a ha => Nat.le_trans f2.size (n3 a ha), f2.trans (f3.mono f2.size)⟩
  have HB := Lib.hid hB
  obtain ⟨n, hn⟩ : ∃ n, n = min ss.length 60 := ⟨_, rfl⟩
  have hn60 : n ≤ 60 := by omega
  have hnl : n ≤ ss.length := by omega
  have hn' : min (ss.length : Int) 60 = (n : Int) := by omega
  clear h3 f2 f3 n2 n3 hc1 hc2 hB hn
  go_wp2_with fail
  go_loopw [6, 28] (fun sv i wr => SmallRel w1 c1 c2 n sv i wr) (fun _ i _ => n - (intOf i).toNat)
  case atStart => exact ⟨0, by omega, rfl, S1, S2, [], [], none, 0, rfl, HB.out⟩
  case round =>
    obtain ⟨j, hj, rfl, S1, S2, l1, L, A6, cp, rfl, hB⟩ := hrel
    clear HB
    by_cases hlt : j < n
    · obtain ⟨x, hx⟩ : ∃ x, ss[j]? = some x := ⟨_, List.getElem?_eq_getElem (by omega)⟩
      obtain ⟨a, rfl, hab, hcell⟩ := HT.out j x hx
      have hcr : wr.cell? (a.add j) = some (.string x) := (hB.below.cell (p := a.add j) (Nat.lt_of_lt_of_le hab HF1.out.size)).trans ((HF1.out.cell hab).trans hcell)
      have hcut : ∀ v, Calls Try.prog 10 #[.string x, .int .i64 4] v fun e w' => e = .returned (.string (cutB x 4)) ∧ v = w' := fun v => C_cutB x 4 (by omega) v
      generalize cutB x 4 = k at hcut
      have hi0 : (0 : Int) ≤ (j : Int) := by omega
      have hi1 : (j : Int) < (n : Int) := by omega
      have hi2 : (j : Int) < (ss.length : Int) := by omega
      have hP1 := C_put wr hB.one k j (by omega) (by have := hB.len1; omega)
      have HB := Lib.hid hB
      have HX := Lib.hid hab
      clear hx hcell hB hab
      go_wp2_with (go_at_call 10; ((with_reducible refine (hcut _).mono ?_); rintro e w4 ⟨rfl, rfl⟩))
      go_at_call 12
      with_reducible refine hP1.mono ?_
      rintro e w4 ⟨rfl, S1', q1, t1, g1⟩
      have q1' : Cac w4 S1' c1 [(k, (j : Int))] 1 0 0 := q1
      have hB4 := HB.out.put1 q1' t1 g1 (by simp)
      have hP2 := C_put w4 hB4.all k j (by omega) (by have := hB4.len; omega)
      have HB4 := Lib.hid hB4
      clear q1 q1' t1 g1 hB4 hP1 hcr
      go_wp2_with fail
      go_at_call 12
      with_reducible refine hP2.mono ?_
      rintro e w5 ⟨rfl, S2', q2, t2, g2⟩
      obtain ⟨r1, r2, r3, r4, r5, r6⟩ := HB4.out.put2 t2 g2
      have q2' : Cac w5 S2' c2 ((luse L k j).take 64) 64 0 0 := q2
      have hU := R_use A6 cp L 64 k j w5 r2 (by have := HB4.out.len; omega) (by omega) (by omega)
      have e64 : (64 : Int).toNat = 64 := rfl
      rw [e64] at hU
      clear e64
      have Q2 := Lib.hid q2'
      have R1 := Lib.hid r1
      have R3 := Lib.hid r3
      have R4 := Lib.hid r4
      have R5 := Lib.hid r5
      have N1 := Lib.hid HB4.out.new1
      clear q2 q2' t2 g2 r1 r2 r3 r4 r5 r6 hP2
      go_wp2_with fail
      go_at_call 13
      with_reducible refine hU.mono ?_
      rintro e w6 ⟨A7, cp7, rfl, u1, u2, u3⟩
      have hB6 : Both w1 w6 S1' S2' c1 c2 [(k, (j : Int))] ((luse L k j).take 64) A7 := by
        refine ⟨R1.out.below u3, Q2.out.below u3, u1, by simp, by rw [List.length_take]; omega, R3.out, fun ad e => ?_, N1.out, R4.out, R5.out.trans (u3.mono R5.out.size)⟩
        have hge := u2 ad e
        obtain ⟨ad', e', hlt', _⟩ := u1 0 (by rw [List.length_take]; unfold luse; rw [List.length_cons]; omega)
        obtain rfl : ad' = ad := by rw [e] at e'; injection e' with e'; exact e'.symm
        exact ⟨fun hm => by have := R1.out.lt _ hm; omega, fun hm => by have := Q2.out.lt _ hm; omega, hlt', Nat.le_trans R5.out.size hge⟩
      have hK := C_keys w6 hB6.one (by simp)
      generalize (luse L k j).take 64 = L7 at hB6 Q2 ⊢
      have HB6 := Lib.hid hB6
      clear u1 u2 u3 hB6 hU
      go_wp2_with fail
      go_at_call 14
      with_reducible refine hK.mono ?_
      rintro e w7 ⟨v7, rfl, o1, o2⟩
      obtain ⟨g8, c8, rfl, hc8⟩ := own_one o1
      have hB7 := HB6.out.below' o2
      have HB7 := Lib.hid hB7
      have hkk : (k.toList == k.toList) = true := by simp
      clear o1 o2 hB7 hK
      go_wp2
      go_roundw
      case rel => exact ⟨j + 1, by omega, by go_num, S1', S2', [(k, (j : Int))], L7, A7, cp7, rfl, HB7.out⟩
      case measure => simp [intOf]; omega
    · obtain rfl : j = n := by omega
      have HB := Lib.hid hB
      clear hB hlt
      go_wp2_with fail
      go_loopw [64] (fun i wx => GotRel w1 L A6 c2 i wx) (fun i _ => L.length - (intOf i).toNat)
      case atStart => exact ⟨0, by omega, rfl, S2, L, 0, 0, HB.out.all, fun q => rfl, rfl, HB.out.row, fun ad e => (HB.out.rowN ad e).2, HB.out.new2, HB.out.below, by omega, by omega, by omega⟩
      case round =>
        have hL64 := HB.out.len
        have hnodup := HB.out.all.nodup
        have HND := Lib.hid hnodup
        clear HB hnodup
        obtain ⟨i, hi, rfl, S3, L3, hits, gets, hc, hf, hlen, hr, hrn, hn, hb, g0, g1, g2⟩ := hrel
        by_cases hlt : i < L.length
        · have hi0 : (0 : Int) ≤ (i : Int) := by omega
          have hi1 : (i : Int) < (L.length : Int) := by omega
          obtain ⟨ad, rfl, hadl, hcs⟩ := hr i hlt
          have q0 := hcs 0 _ rfl
          have q1 := hcs 1 _ rfl
          have hmem : (L[i].1, L[i].2) ∈ L := List.getElem_mem hlt
          have hfi := (hf L[i].1).trans (lfind_of_mem HND.out hmem)
          generalize L[i] = p at q0 q1 hfi hcs hmem
          obtain ⟨p, x⟩ := p
          simp only [caddr] at q0 q1 hfi
          have hca : Cac (wr.alloc (.cells #[.string p, .int .i64 x] PT)) S3 c2 L3 64 hits gets := hc.below ((Below.refl _ _).alloc (Nat.le_refl _) _)
          have hG := C_get _ hca p (by omega) (by omega) g0 (by omega)
          unfold GetAt lgot at hG
          rw [hfi] at hG
          simp only [Option.getD_some, Option.isSome_some, if_true] at hG
          have hbx : (wr.alloc (.cells #[.string p, .int .i64 x] PT)).heap[wr.heap.size]? = some (.cells #[.string p, .int .i64 x] PT (0, 0)) := push_new rfl
          have hT0 : Below wr.heap.size wr (wr.alloc (.cells #[.string p, .int .i64 x] PT)) := (Below.refl _ _).alloc (Nat.le_refl _) _
          have HBX := Lib.hid hbx
          have HT0 := Lib.hid hT0
          have HC := Lib.hid hc
          have HCA := Lib.hid hca
          have HF := Lib.hid hf
          have HLN := Lib.hid hlen
          have HFI := Lib.hid hfi
          have HR := Lib.hid hr
          have HRN := Lib.hid hrn
          have HN := Lib.hid hn
          have HBB := Lib.hid hb
          clear hbx hT0 hc hca hf hlen hfi hr hrn hn hb hcs hmem
          go_wp2_with fail
          go_at_call 15
          with_reducible refine hG.mono ?_
          rintro e w8 ⟨rfl, S4, y1, y2, y3⟩
          have hbx8 : w8.heap[wr.heap.size]? = some (.cells #[.string p, .int .i64 x] PT (0, 0)) := (y2.block _ (by simp) (fun hm => Nat.lt_irrefl _ (HC.out.lt _ hm))).trans HBX.out
          have z0 := cell_of_row _ _ 0 _ _ _ hbx8
          have z1 := cell_of_row _ _ 1 _ _ _ hbx8
          have hxx : (x != x) = false := by simp
          have hfin : GotRel w1 L (some ad) c2 (.int .i64 ((i + 1 : Nat) : Int)) w8 := by
            refine ⟨i + 1, by omega, rfl, S4, _, _, _, y1, fun q => ?_, by rw [luse_len HFI.out HC.out.nodup]; exact HLN.out, (HR.out.below HT0.out rfl).touch y2 fun ad' e => ((HRN.out ad' e).1), fun ad' e => ?_, y3.ge HN.out (by have := HBB.out.size; simp; omega), (HBB.out.trans (HT0.out.mono HBB.out.size)).trans (y2.below HN.out (by have := HBB.out.size; simp; omega)), by omega, by omega, by push_cast; omega⟩
            · rw [lfind_luse]
              by_cases hqp : q = p
              · subst hqp
                rw [if_pos rfl, ← HF.out, HFI.out]
              · rw [if_neg hqp]
                exact HF.out q
            · obtain ⟨m1, m2, m3⟩ := HRN.out ad' e
              exact ⟨y3.out (by simp; omega) m1, by have := y2.size; simp at this; omega, m3⟩
          have HFIN := Lib.hid hfin
          clear y1 y2 y3 hfin hbx8 q0 q1 hG
          go_wp2
          go_roundw
          case rel =>
            have := HFIN.out
            push_cast at this
            exact this
          case measure => simp [intOf]; omega
        · obtain rfl : i = L.length := by omega
          have hLen := C_len wr hc
          have hq3 : ((L3.length : Nat) : Int) = (L.length : Int) := by rw [hlen]
          have HB9 := Lib.hid (HF1.out.trans (hb.mono HF1.out.size))
          rw [hq3] at hLen
          clear hc hf hlen hr hrn hn hb hlt hq3
          go_wp2_with (go_at_call 11; ((with_reducible refine hLen.mono ?_); rintro e w9 ⟨rfl, rfl⟩))
          go_ret
          refine ⟨?_, HB9.out⟩
          simp
end Go.Proofs.Ytphfomnjhlfdhaa.Cod
