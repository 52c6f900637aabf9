/- CachePlays: Of, and its closure. -/
import Derived.Test.YtphfomnjhlfdhaaCaAns
import Derived.Test.YtphfomnjhlfdhaaCaRef
namespace Go.Proofs.Ytphfomnjhlfdhaa.Cod
open Go.RowKit
abbrev FP (kb mb ab : Nat) : Value := .func (.func 17) #[] #[ptr kb, ptr mb, ptr ab]
structure Env3 (w : World) (S : List Nat) (kb mb ab : Nat) (k : ByteArray) (m kind v : Int) (key0 : ByteArray) : Prop where
  kbox : w.heap[kb]? = some (.cells #[.string k] 9 (0, 0))
  mbox : w.heap[mb]? = some (.cells #[.int .i64 m] 3 (0, 0))
  abox : w.heap[ab]? = some (.cells #[.int .i64 kind, .int .i64 v, .string key0] 42 (0, 0))
  kn : kb ∉ S
  mn : mb ∉ S
  an : ab ∉ S
theorem Env3.step {w w' : World} {S S' : List Nat} {kb mb ab : Nat} {k : ByteArray} {m kind v : Int} {key0 : ByteArray} (h : Env3 w S kb mb ab k m kind v key0) (t : Touch S w w') (f : Foot w S S') : Env3 w' S' kb mb ab k m kind v key0 :=
  ⟨(t.block kb (lt_of_heap h.kbox) h.kn).trans h.kbox, (t.block mb (lt_of_heap h.mbox) h.mn).trans h.mbox, (t.block ab (lt_of_heap h.abox) h.an).trans h.abox, f.out (lt_of_heap h.kbox) h.kn, f.out (lt_of_heap h.mbox) h.mn, f.out (lt_of_heap h.abox) h.an⟩
theorem Env3.kne {w : World} {S : List Nat} {kb mb ab : Nat} {k : ByteArray} {m kind v : Int} {key0 : ByteArray} (h : Env3 w S kb mb ab k m kind v key0) : kb ≠ mb ∧ ab ≠ mb := by
  refine ⟨fun e => ?_, fun e => ?_⟩
  · have := h.kbox
    rw [e, h.mbox] at this
    simp at this
  · have := h.abox
    rw [e, h.mbox] at this
    simp at this
set_option maxHeartbeats 4000000 in
set_option maxRecDepth 100000 in
theorem C_cl17 {w : World} {S : List Nat} {kb mb ab : Nat} {k : ByteArray} {m kind v : Int} {key0 : ByteArray} (h : Env3 w S kb mb ab k m kind v key0) (h0 : 0 ≤ m) (h1 : m ≤ 100) :
    Calls Try.prog 17 #[.string k, ptr kb, ptr mb, ptr ab] w fun e w' => e = .returned (.int .i64 v) ∧ Env3 w' S kb mb ab k (m + 1) kind v key0 ∧ Touch [mb] w w' := by
  have c0 := cell_of_row _ _ 0 _ _ _ h.kbox
  have c1 := cell_of_row _ _ 0 _ _ _ h.mbox
  have c2 := cell_of_row _ _ 1 _ _ _ h.abox
  have z1 := frozen_of_row _ _ 0 _ _ h.mbox
  have hk : (k.toList == k.toList) = true := by simp
  obtain ⟨n1, n2⟩ := h.kne
  have HH := Lib.hid h
  have N1 := Lib.hid n1
  clear h n1
  go_enter Try.func17, Try.ntmps17
  go_wp2
  go_ret
  have h := HH.out
  refine ⟨rfl, ⟨(Below.heap_setCell _ ⟨mb, 0, none⟩ _ kb N1.out).trans h.kbox, (set_cell h.mbox _).trans rfl, (Below.heap_setCell _ ⟨mb, 0, none⟩ _ ab n2).trans h.abox, h.kn, h.mn, h.an⟩, (Touch.refl _ _).setCell (.inl (by simp)) _⟩
def OfAt (w : World) (S : List Nat) (c kb mb ab : Nat) (l : PL) (most hits gets : Int) (k : ByteArray) (kind v : Int) (key0 : ByteArray) (e : Ending) (w' : World) : Prop :=
  ∃ S', Touch (mb :: S) w w' ∧ Foot w S S' ∧ match lfind l k with
    | some u => e = .returned (.int .i64 u) ∧ Cac w' S' c (luse l k u) most (hits + 1) (gets + 1) ∧ Env3 w' S' kb mb ab k 0 kind v key0
    | none => e = .returned (.int .i64 v) ∧ Cac w' S' c ((luse l k v).take most.toNat) most hits (gets + 1) ∧ Env3 w' S' kb mb ab k 1 kind v key0
set_option maxHeartbeats 4000000 in
set_option maxRecDepth 100000 in
theorem C_of17 {w : World} {S : List Nat} {c kb mb ab : Nat} {l : PL} {most hits gets : Int} {k : ByteArray} {kind v : Int} {key0 : ByteArray} (H : Cac w S c l most hits gets) (E : Env3 w S kb mb ab k 0 kind v key0) (g0 : 0 ≤ gets) (g1 : gets ≤ 1000000) (g2 : 0 ≤ hits) (g3 : hits ≤ 1000000) (m1 : 1 ≤ most) (hlen : (l.length : Int) ≤ most) :
    Calls Try.prog 9 #[ptr c, .string k, FP kb mb ab] w (OfAt w S c kb mb ab l most hits gets k kind v key0) := by
  have hcg := C_get w H k g0 (by omega) g2 (by omega)
  rcases hq : lfind l k with _ | u
  · unfold GetAt lgot at hcg
    unfold OfAt
    rw [hq] at hcg ⊢
    simp only [Option.getD_none, Option.isSome_none, Bool.false_eq_true, if_false, Int.add_zero] at hcg
    have EE := Lib.hid E
    clear hq H E
    go_enter Try.func9, Try.ntmps9
    go_wp2_with fail
    go_at_call 15
    with_reducible refine hcg.mono ?_
    rintro e w1 ⟨rfl, S1, hc1, t1, f1⟩
    have e1 := EE.out.step t1 f1
    have c1 := C_cl17 e1 (by omega) (by omega)
    have HC1 := Lib.hid hc1
    have T1 := Lib.hid t1
    have F1 := Lib.hid f1
    have E1 := Lib.hid e1
    clear hc1 t1 f1 hcg e1
    go_wp2_with fail
    go_at_call 17
    with_reducible refine c1.mono ?_
    rintro e w2 ⟨rfl, e2, t2⟩
    have hc2 := HC1.out.touch t2 (fun a ha hm => e2.mn (by simp at hm; rw [← hm]; exact ha))
    have hcp := C_put w2 hc2 k v m1 hlen
    have E2 := Lib.hid e2
    have T2 := Lib.hid t2
    clear hc2 e2 t2 c1
    go_wp2_with fail
    go_at_call 12
    with_reducible refine hcp.mono ?_
    rintro e w3 ⟨rfl, S3, hc3, t3, f3⟩
    have hfin : ∃ S', Touch (mb :: S) w w3 ∧ Foot w S S' ∧ Cac w3 S' c ((luse l k v).take most.toNat) most hits (gets + 1) ∧ Env3 w3 S' kb mb ab k 1 kind v key0 := by
      refine ⟨S3, ?_, fun a ha => ?_, hc3, E2.out.step t3 f3⟩
      · refine (((T1.out.mono (S' := mb :: (S ++ S1)) (by grind)).trans (T2.out.mono (by grind))).trans (t3.mono (by grind))).strike fun a ha => ?_
        rcases List.mem_cons.1 ha with q | q
        · exact .inl (by rw [q]; simp)
        · rcases List.mem_append.1 q with q | q
          · exact .inl (by simp [q])
          · exact (F1.out a q).imp (fun q => by simp [q]) id
      · rcases f3 a ha with q | q
        · exact F1.out a q
        · exact .inr (Nat.le_trans T1.out.size (Nat.le_trans T2.out.size q))
    have HF := Lib.hid hfin
    clear hc3 t3 f3 hfin hcp
    go_wp2
    go_ret
    obtain ⟨S', a1, a2, a3, a4⟩ := HF.out
    exact ⟨S', a1, a2, rfl, a3, a4⟩
  · unfold GetAt lgot at hcg
    unfold OfAt
    rw [hq] at hcg ⊢
    simp only [Option.getD_some, Option.isSome_some, if_true] at hcg
    have EE := Lib.hid E
    clear hq H E
    go_enter Try.func9, Try.ntmps9
    go_wp2_with fail
    go_at_call 15
    with_reducible refine hcg.mono ?_
    rintro e w1 ⟨rfl, S1, hc1, t1, f1⟩
    have hfin : ∃ S', Touch (mb :: S) w w1 ∧ Foot w S S' ∧ Cac w1 S' c (luse l k u) most (hits + 1) (gets + 1) ∧ Env3 w1 S' kb mb ab k 0 kind v key0 := ⟨S1, t1.mono (by grind), f1, hc1, EE.out.step t1 f1⟩
    have HF := Lib.hid hfin
    clear hc1 t1 f1 hfin hcg
    go_wp2
    go_ret
    obtain ⟨S', a1, a2, a3, a4⟩ := HF.out
    exact ⟨S', a1, a2, rfl, a3, a4⟩
set_option maxHeartbeats 4000000 in
set_option maxRecDepth 100000 in
theorem C_hits {S : List Nat} {c : Nat} {l : PL} {most hits gets : Int} (w : World) (H : Cac w S c l most hits gets) :
    Calls Try.prog 18 #[ptr c] w fun e w' => e = .returned (.tuple #[.int .i64 hits, .int .i64 gets]) ∧ ∃ n, w' = w.drewN n := by
  obtain ⟨m, h, bs, key, val, rfl, H, rfl⟩ := H
  have c3 := cell_of_row _ _ 3 _ _ _ H.cell
  have c4 := cell_of_row _ _ 4 _ _ _ H.cell
  clear H
  go_enter Try.func18, Try.ntmps18
  go_wp2_with fail
  go_quiet (fail)
  go_wp2
  go_ret2
  exact ⟨rfl, _, rfl⟩
end Go.Proofs.Ytphfomnjhlfdhaa.Cod
