/- The document's cache: Get, Use. -/
import Derived.Test.YtphfomnjhlfdhaaCaC
import Derived.Test.YtphfomnjhlfdhaaRowS
import Derived.Test.YtphfomnjhlfdhaaRef
import Derived.Maps.AppendAt
namespace Go.Proofs.Ytphfomnjhlfdhaa.Cod
open Go.RowKit
def pc (p : ByteArray × Int) : List Value := [.string p.1, .int .i64 p.2]
theorem pc_len (p : ByteArray × Int) : (pc p).length = 2 := rfl
abbrev PT := 35
theorem info_pt : (Try.prog.info? PT).map (fun i => (i.zero, i.size, i.bytes)) = some (some (.agg #[.string ⟨#[]⟩, .int .i64 0]), 2, 24) := by kernel_rfl
theorem toList_beq (a b : ByteArray) : (a.toList == b.toList) = decide (a = b) := by
  rw [ByteArray.toList_eq, ByteArray.toList_eq, Bool.eq_iff_iff, beq_iff_eq, decide_eq_true_eq]
  constructor
  · intro h
    obtain ⟨⟨a⟩⟩ := a
    obtain ⟨⟨b⟩⟩ := b
    simp at h
    rw [h]
  · rintro rfl
    rfl
theorem lt_of_heap' {w : World} {b : Nat} {o : Obj} (h : w.heap[b]? = some o) : b < w.heap.size := (Array.getElem?_eq_some_iff.1 h).1
def UseRel (w0 : World) (B : Nat) (l : PL) (k : ByteArray) (v : Int) (o i : Value) (wr : World) : Prop :=
  ∃ (j : Nat) (q : PL), j ≤ l.length ∧ i = .int .i64 j ∧ q = (k, v) :: (l.take j).filter (fun p => !decide (p.1 = k)) ∧ wr.ownsRow B PT 2 o q.length (q.flatMap pc) ∧ Below B w0 wr
set_option maxHeartbeats 4000000 in
set_option maxRecDepth 100000 in
theorem R_use (A : Option Addr) (cap : Nat) (l : PL) (most : Int) (k : ByteArray) (v : Int) (w : World) (h : RowsAt pc 2 w A l) (hl : l.length ≤ 200) (h1 : 1 ≤ most) (h2 : most ≤ 1000) :
    Calls Try.prog 13 #[.slice A l.length cap, .int .i64 most, .agg #[.string k, .int .i64 v]] w fun e w' => ∃ A' c', e = .returned (.slice A' ((luse l k v).take most.toNat).length c') ∧ RowsAt pc 2 w' A' ((luse l k v).take most.toNat) ∧ (∀ ad, A' = some ad → w.heap.size ≤ ad.block) ∧ Below w.heap.size w w' := by
  obtain ⟨i0, hi, hz0, hz1, hz2⟩ := info_parts info_pt
  have HA := Lib.hid h
  clear h
  go_enter Try.func13, Try.ntmps13
  go_wp2
  obtain ⟨W0, hW0⟩ : ∃ W0, W0 = w.alloc (.cells #[.string k, .int .i64 v] PT) := ⟨_, rfl⟩
  rw [← hW0]
  have hbox : W0.heap[w.heap.size]? = some (.cells #[.string k, .int .i64 v] PT (0, 0)) := by rw [hW0]; exact push_new rfl
  have hsz : W0.heap.size = w.heap.size + 1 := by rw [hW0]; simp
  have hb0 : Below w.heap.size w W0 := by rw [hW0]; exact (Below.refl _ _).alloc (Nat.le_refl _) _
  have hrow : (W0.alloc (.cells #[.string k, .int .i64 v] PT)).ownsRow (w.heap.size + 1) PT 2 (.slice (some ⟨w.heap.size + 1, 0, none⟩) 1 1) 1 [.string k, .int .i64 v] :=
    ⟨rfl, .inr ⟨w.heap.size + 1, 1, #[.string k, .int .i64 v], rfl, Nat.le_refl _, push_new hsz.symm, Nat.le_refl _, by decide, rfl, rfl⟩⟩
  have HBX := Lib.hid hbox
  have HB0 := Lib.hid hb0
  have HSZ := Lib.hid hsz
  have HR := Lib.hid hrow
  have hb1 : Below (w.heap.size + 1) W0 (W0.alloc (.cells #[.string k, .int .i64 v] PT)) := (Below.refl _ _).alloc (by omega) _
  have HB1 := Lib.hid hb1
  clear hbox hsz hb0 hrow hb1
  go_loopw [7, 14] (fun o i wr => UseRel W0 (w.heap.size + 1) l k v o i wr) (fun _ i _ => l.length - (intOf i).toNat)
  case atStart => exact ⟨0, [(k, v)], by omega, rfl, by simp, HR.out, HB1.out⟩
  case round =>
    obtain ⟨j, q, hj, rfl, hq, hown, hb⟩ := hrel
    have hbx := (hb.block w.heap.size (by omega)).trans HBX.out
    have x0 := cell_of_row _ _ 0 _ _ _ hbx
    have x1 := cell_of_row _ _ 1 _ _ _ hbx
    have hxlt : w.heap.size < wr.heap.size := lt_of_heap' hbx
    have HQ := Lib.hid hq
    clear hq hbx
    by_cases hlt : j < l.length
    · have hlt2 : (j : Int) < (l.length : Int) := by omega
      have hj0 : (0 : Int) ≤ (j : Int) := by omega
      obtain ⟨ad, rfl, hadl, hcs⟩ := (HA.out.below (HB0.out.trans (hb.mono (by omega))) rfl) j hlt
      have c0 := hcs 0 _ rfl
      have c1 := hcs 1 _ rfl
      have htk : l.take (j + 1) = l.take j ++ [l[j]] := by rw [List.take_add_one, List.getElem?_eq_getElem hlt]; rfl
      generalize l[j] = p at c0 c1 htk hcs
      obtain ⟨p, n⟩ := p
      simp only [caddr] at c0 c1
      have HTK := Lib.hid htk
      have HO := Lib.hid hown
      have HB := Lib.hid hb
      clear htk hcs hown hb hadl
      by_cases hk : p = k
      · subst hk
        have he : (p.toList == p.toList) = true := by simp
        have he2 : (p.toList != p.toList) = false := by simp
        go_wp2
        go_roundw
        case rel =>
          refine ⟨j + 1, q, by omega, by go_num, ?_, HO.out.alloc _, HB.out.alloc (by have := HB.out.size; have := HSZ.out; omega) _⟩
          rw [HQ.out, HTK.out, List.filter_append]
          simp
        case measure => simp [intOf]; omega
      · have he : (p.toList == k.toList) = false := by rw [toList_beq]; simp [hk]
        have hq2 : q ++ [(p, n)] = (k, v) :: (l.take (j + 1)).filter (fun p => !decide (p.1 = k)) := by
          rw [HQ.out, HTK.out, List.filter_append]
          simp [hk]
        have hql : q.length ≤ 201 := by
          rw [HQ.out, List.length_cons]
          have := List.length_filter_le (fun p : ByteArray × Int => !decide (p.1 = k)) (l.take j)
          rw [List.length_take] at this
          omega
        have HQ2 := Lib.hid hq2
        have HQL := Lib.hid hql
        clear hk hq2 hql HQ
        go_wp2_with (at_builtin; refine wpList_append_own _ rfl _ _ 31 rfl (w.heap.size + 1) PT i0 (.agg #[.string ⟨#[]⟩, .int .i64 0]) 2 24 Try.underlying31 hi hz0 hz1 hz2 rfl (by decide) _ _ _ rfl ((HO.out.alloc _).alloc _) ⟨wr.heap.size + 1, 0, none⟩ 1 1 [.string p, .int .i64 n] rfl ?c1 ?c2 ?c3 ?c4 ?c5 ?c6 ?_)
        case c1 => rfl
        case c2 =>
          intro j u hu
          rw [Addr.add_mid, Nat.zero_add, cell_of_row _ _ j _ _ _ (heap_alloc2_new wr _ _)]
          simpa using hu
        case c3 =>
          intro u hu
          simp only [List.mem_cons, List.not_mem_nil, or_false] at hu
          rcases hu with rfl | rfl <;> rfl
        case c4 => have := HQL.out; unfold maxLen; omega
        case c5 => have := HQL.out; omega
        case c6 => have := HB.out.size; have := HSZ.out; simp; omega
        intro v' w1 hown' hgrow _
        have HO' := Lib.hid hown'
        have HG := Lib.hid hgrow
        clear hown' hgrow
        go_wp2
        go_roundw
        case rel =>
          refine ⟨j + 1, q ++ [(p, n)], by omega, by go_num, HQ2.out, ?_, ?_⟩
          · have := HO'.out
            rw [List.flatMap_append, List.length_append]
            exact this
          · exact ((HB.out.alloc (by have := HB.out.size; have := HSZ.out; omega) _).alloc (by have := HB.out.size; have := HSZ.out; simp; omega) _).grown HG.out (by have := HB.out.size; have := HSZ.out; simp; omega) (fun k hk => (HO.out.lt k hk).1)
        case measure => simp [intOf]; omega
    · obtain rfl : j = l.length := by omega
      rw [List.take_length] at HQ
      obtain ⟨A', c', rfl, hcap, hbase, hE⟩ := rows_of_own pc_len hown
      have HBS := Lib.hid hbase
      have hb2 : Below w.heap.size w wr := HB0.out.trans (hb.mono (by omega))
      have HB2 := Lib.hid hb2
      have HE := Lib.hid hE
      have hu : luse l k v = q := HQ.out.symm
      have HU := Lib.hid hu
      have hql : q.length ≤ 201 := by
        rw [HQ.out, List.length_cons]
        have := List.length_filter_le (fun p : ByteArray × Int => !decide (p.1 = k)) l
        omega
      have hcap2 : (q.length : Int) ≤ (c' : Int) := by omega
      clear hb hown hE hb2 hu HQ hlt hcap hbase
      have e : (min (q.length : Int) most).toNat = (q.take most.toNat).length := by rw [List.length_take]; omega
      have E := Lib.hid e
      clear e
      go_wp2
      go_ret
      rw [HU.out, ← E.out]
      exact ⟨A', c', rfl, HE.out.take _, fun ad e => by have := HBS.out ad e; omega, HB2.out⟩
def RGetRel (w0 : World) (l : PL) (k : ByteArray) (i : Value) (wr : World) : Prop := ∃ j : Nat, j ≤ l.length ∧ i = .int .i64 j ∧ (∀ p ∈ l.take j, p.1 ≠ k) ∧ Below w0.heap.size w0 wr
set_option maxHeartbeats 4000000 in
set_option maxRecDepth 100000 in
theorem R_get (A : Option Addr) (cap : Nat) (l : PL) (k : ByteArray) (w : World) (h : RowsAt pc 2 w A l) (hl : l.length ≤ 200) :
    Calls Try.prog 16 #[.slice A l.length cap, .string k] w fun e w' => e = .returned (.tuple #[.int .i64 ((lfind l k).getD 0), .bool (lfind l k).isSome]) ∧ Below w.heap.size w w' := by
  have HA := Lib.hid h
  clear h
  go_enter Try.func16, Try.ntmps16
  go_wp2
  go_loopw [10] (fun i wr => RGetRel w l k i wr) (fun i _ => l.length - (intOf i).toNat)
  case atStart => exact ⟨0, by omega, rfl, (fun p hp => by simp at hp), Below.refl _ _⟩
  case round =>
    obtain ⟨j, hj, rfl, hno, hb⟩ := hrel
    by_cases hlt : j < l.length
    · have hlt2 : (j : Int) < (l.length : Int) := by omega
      have hj0 : (0 : Int) ≤ (j : Int) := by omega
      obtain ⟨ad, rfl, hadl, hcs⟩ := (HA.out.below hb rfl) j hlt
      have c0 := hcs 0 _ rfl
      have c1 := hcs 1 _ rfl
      have htk : l.take (j + 1) = l.take j ++ [l[j]] := by rw [List.take_add_one, List.getElem?_eq_getElem hlt]; rfl
      have hsp : l = l.take j ++ l[j] :: l.drop (j + 1) := by rw [← List.drop_eq_getElem_cons hlt, List.take_append_drop]
      generalize l[j] = p at c0 c1 htk hcs hsp
      obtain ⟨p, n⟩ := p
      simp only [caddr] at c0 c1
      have HTK := Lib.hid htk
      have HB := Lib.hid hb
      have HN := Lib.hid hno
      have HSP := Lib.hid hsp
      clear htk hcs hb hadl hno hsp
      by_cases hk : p = k
      · subst hk
        have he : (p.toList == p.toList) = true := by simp
        have hf : lfind l p = some n := by
          rw [HSP.out]
          unfold lfind
          rw [List.find?_append, List.find?_eq_none.2 fun q hq => by simpa using HN.out q hq]
          simp
        have HF := Lib.hid hf
        clear hf
        go_wp2
        go_ret2
        rw [HF.out]
        exact ⟨rfl, HB.out.alloc HB.out.size _⟩
      · have he : (p.toList == k.toList) = false := by rw [toList_beq]; simp [hk]
        have HK := Lib.hid hk
        clear hk
        go_wp2
        go_roundw
        case rel =>
          refine ⟨j + 1, by omega, by go_num, fun q hq => ?_, HB.out.alloc HB.out.size _⟩
          rw [HTK.out] at hq
          rcases List.mem_append.1 hq with hq | hq
          · exact HN.out q hq
          · simp at hq
            rw [hq]
            exact HK.out
        case measure => simp [intOf]; omega
    · obtain rfl : j = l.length := by omega
      have hf : lfind l k = none := lfind_none fun p hp => hno p (by rw [List.take_length]; exact hp)
      have HF := Lib.hid hf
      have HB := Lib.hid hb
      clear hf hb hno hlt
      go_wp2
      go_ret2
      rw [HF.out]
      exact ⟨rfl, HB.out⟩
end Go.Proofs.Ytphfomnjhlfdhaa.Cod
