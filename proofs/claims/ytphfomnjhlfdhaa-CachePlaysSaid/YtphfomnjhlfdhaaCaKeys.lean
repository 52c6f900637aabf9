/- cache: all, in the fence; AppendSeq over it; Keys. -/
import Derived.Test.YtphfomnjhlfdhaaCaC
import Derived.Test.YtphfomnjhlfdhaaRangeFn
import Derived.Maps.AppendAt
import Derived.Shelf.Abstract
import Derived.LaidEqlPtr
namespace Go.Proofs.Ytphfomnjhlfdhaa.Cod
open Go.RowKit Go.Shelf
theorem chain_at {nx pv : Nat → Nat} : ∀ {l : List Nat}, Chain nx pv l → ∀ (i a b : Nat), l[i]? = some a → l[i + 1]? = some b → nx a = b
  | [], _, i, a, b, h, _ => by simp at h
  | [x], _, i, a, b, h, h' => by cases i <;> simp at h h'
  | x :: y :: l, c, i, a, b, h, h' => by
    obtain ⟨c1, _, c3⟩ := c
    cases i with
    | zero =>
      simp at h h'
      rw [← h, ← h', c1]
    | succ i => exact chain_at c3 i a b (by simpa using h) (by simpa using h')
open Classical in
noncomputable def posOf (L : List Nat) (v : Value) : Nat := if h : ∃ k, k < L.length ∧ ∃ a, L[k]? = some a ∧ v = ptr a then h.choose else 0
theorem posOf_eq {L : List Nat} (hn : L.Nodup) {k a : Nat} (h : L[k]? = some a) : posOf L (ptr a) = k := by
  have hk := (List.getElem?_eq_some_iff.1 h).1
  have hex : ∃ k, k < L.length ∧ ∃ a', L[k]? = some a' ∧ ptr a = ptr a' := ⟨k, hk, a, h, rfl⟩
  unfold posOf
  rw [dif_pos hex]
  obtain ⟨h1, a', h2, h3⟩ := hex.choose_spec
  have : a = a' := by
    injection h3 with h3
    injection h3 with h3
    injection h3
  subst this
  exact (List.getElem?_inj h1 hn).1 (h2.trans h.symm)
theorem neq_same (P : Program) (w : World) {tp te : TypeId} {j : TypeInfo} (a : Addr) (hp : P.underlying tp = some (.pointer te)) (hte : P.info? te = some j) :
    (binOp .neq tp (.pointer (some a)) (.pointer (some a))).run P w = .ok (.bool false) w := by
  have h : ∀ d : Nat, (Op.equalIn (d + 1) tp (.pointer (some a)) (.pointer (some a))).run P w = .ok true w := fun d => by
    simp [Op.equalIn, run_underlying hp, sizeOf, typeInfo, hte, run_sameAddr_same]
  simp only [binOp]
  simp [Op.equal, Op.maxDepth, h 9999]
theorem neq_other (P : Program) (w : World) {tp te : TypeId} {j : TypeInfo} {a b : Addr} {ca cb : Array Value} {ta tb : TypeId} (hp : P.underlying tp = some (.pointer te)) (hte : P.info? te = some j) (hsz : j.size ≠ 0)
    (hne : a ≠ b) (ha : w.heap[a.block]? = some (.cells ca ta (0, 0))) (hb : w.heap[b.block]? = some (.cells cb tb (0, 0))) :
    (binOp .neq tp (.pointer (some a)) (.pointer (some b))).run P w = .ok (.bool true) w := by
  have h : ∀ d : Nat, (Op.equalIn (d + 1) tp (.pointer (some a)) (.pointer (some b))).run P w = .ok false w := fun d => by
    simp [Op.equalIn, run_underlying hp, sizeOf, typeInfo, hte, hsz, run_sameAddr_other w hne ha hb]
  simp only [binOp]
  simp [Op.equal, Op.maxDepth, h 9999]
theorem und_pe : Try.prog.underlying 47 = some (.pointer NT) := by kernel_rfl
theorem info_nt : ∃ j, Try.prog.info? NT = some j ∧ j.size = 4 := by
  have h : (Try.prog.info? NT).map (·.size) = some 4 := by kernel_rfl
  obtain ⟨j, h1, h2⟩ := Option.map_eq_some_iff.1 h
  exact ⟨j, h1, h2⟩
set_option maxHeartbeats 4000000 in
set_option maxRecDepth 100000 in
theorem all_in (F : Fence) (n : Nat) (hF : F.fn 22) (hro : F.round = none) (hn1 : 1 ≤ n) (lp : Nat) {c m h : Nat} {bs : List Nat} {key : Nat → ByteArray} {val : Nat → Int} {most hits gets : Int} (J : List ByteArray → World → Prop) (W : World)
    (hJ : ∀ pre W, J pre W → CacheAt NT CT W c m h bs key val most hits gets)
    (hY : ∀ pre x W, J pre W → pre.length < bs.length → YieldAt F (n - 1) Try.prog lp #[.string x] W fun e W' => e = .returned (.bool true) ∧ J (pre ++ [x]) W') (h0 : J [] W) :
    CallsIn F n Try.prog 22 #[ptr c, .func (.yield lp) #[] #[]] W fun e W' => (∃ v, e = .returned v) ∧ J (bs.map key) W' := by
  have H0 := hJ [] W h0
  have nd : (bs ++ [h]).Nodup := by
    have := H0.apart.1
    have h1 : (h :: bs).Nodup := (List.nodup_cons.1 (List.nodup_cons.1 this).2).2
    exact ((List.perm_append_singleton h bs).nodup_iff).2 h1
  obtain ⟨nx0, pv0, r0, hn0⟩ := H0.ring
  have hnext : ∀ W, CacheAt NT CT W c m h bs key val most hits gets → ∀ k a b, (h :: bs)[k]? = some a → (bs ++ [h])[k]? = some b → W.cell? ⟨a, 3, none⟩ = some (ptr b) ∧ W.cell? ⟨a, 0, none⟩ = some (.string (key a)) := fun W HW k a b ha hb => by
    obtain ⟨nx, pv, r, hn⟩ := HW.ring
    have hm : a ∈ h :: bs := List.mem_of_getElem? ha
    have hc := hn a hm
    have e : nx a = b := by
      refine chain_at r.1 k a b ?_ ?_
      · have hk := (List.getElem?_eq_some_iff.1 ha).1
        rw [show h :: bs ++ [h] = (h :: bs) ++ [h] from rfl, List.getElem?_append_left hk]
        exact ha
      · rw [List.cons_append, List.getElem?_cons_succ]
        exact hb
    rw [cell_of_row _ _ _ _ _ _ hc, cell_of_row _ _ _ _ _ _ hc, ← e]
    exact ⟨rfl, rfl⟩
  have hch : ∀ W, CacheAt NT CT W c m h bs key val most hits gets → W.cell? ⟨c, 1, none⟩ = some (ptr h) := fun W HW => by rw [cell_of_row _ _ _ _ _ _ HW.cell]; rfl
  obtain ⟨b0, hb0⟩ : ∃ b0, (bs ++ [h])[0]? = some b0 := ⟨_, List.getElem?_eq_getElem (by simp)⟩
  have c1 := hch W H0
  have c3 := (hnext W H0 0 h b0 (by simp) hb0).1
  have HB0 := Lib.hid hb0
  have HN := Lib.hid hnext
  have HC := Lib.hid hch
  have HJ := Lib.hid hJ
  have HND := Lib.hid nd
  have HYY := Lib.hid hY
  have J0 := Lib.hid h0
  clear hb0 hnext hch hJ nd hY h0 r0 hn0 H0
  refine callsIn_of_wp Try.func22 rfl hF ?_ hro
  simp only [Try.ntmps22, List.size_toArray, List.length_cons, List.length_nil, Nat.reduceAdd, Nat.reduceSub, Array.replicate_succ, Array.replicate_zero, List.push_toArray, List.append_toArray, List.nil_append, List.cons_append]
  gi_wp2
  gi_loopw [4] (fun p wr => ∃ k a, k ≤ bs.length ∧ (bs ++ [h])[k]? = some a ∧ p = ptr a ∧ J ((bs.take k).map key) wr) (fun p _ => bs.length - posOf (bs ++ [h]) p)
  case atStart => exact ⟨0, b0, by omega, HB0.out, rfl, J0.out⟩
  case round =>
    obtain ⟨k, a, hk, ha, rfl, hj⟩ := hrel
    have HW := HJ.out _ _ hj
    have ch := HC.out wr HW
    obtain ⟨j, hj1, hj2⟩ := info_nt
    obtain ⟨nx, pv, rr, hnn⟩ := HW.ring
    have hh := hnn h (by simp)
    by_cases hlt : k < bs.length
    · have hab : a ∈ bs := by
        rw [List.getElem?_append_left hlt] at ha
        exact List.mem_of_getElem? ha
      have hah : a ≠ h := fun e => (List.nodup_cons.1 rr.2).1 (e ▸ hab)
      have hna := hnn a (by simp [hab])
      have hneq := neq_other Try.prog wr (a := ⟨a, 0, none⟩) (b := ⟨h, 0, none⟩) und_pe hj1 (by rw [hj2]; decide) (fun e => hah (by injection e)) hna hh
      have hka : bs[k]? = some a := by rw [← ha, List.getElem?_append_left hlt]
      obtain ⟨b, hb⟩ : ∃ b, (bs ++ [h])[k + 1]? = some b := ⟨_, List.getElem?_eq_getElem (by simp; omega)⟩
      have cn := HN.out wr HW (k + 1) a b (by simpa using hka) hb
      obtain ⟨fn, tmps, assign, body, hy, hR⟩ := HYY.out _ (key a) wr hj (by simp; omega)
      have htk : (bs.take (k + 1)).map key = (bs.take k).map key ++ [key a] := by
        rw [List.take_add_one, hka]
        simp
      have c0 := cn.2
      have HTK := Lib.hid htk
      have HKA := Lib.hid hka
      have HB := Lib.hid hb
      have HA := Lib.hid ha
      have HAH := Lib.hid hah
      clear HW rr hnn hh hna hj hj1 hj2 cn htk hka hb ha hab hah
      gi_wp2
      refine hR.mono ?_
      rintro e W3 ⟨rfl, hJ3⟩
      have HW3 := HJ.out _ _ hJ3
      have cn3 := (HN.out W3 HW3 (k + 1) a b (by simpa using HKA.out) HB.out).1
      have HJ3 := Lib.hid hJ3
      clear HW3 hJ3
      gi_wp2
      go_roundw
      case rel => exact ⟨k + 1, b, by omega, HB.out, rfl, by rw [HTK.out]; exact HJ3.out⟩
      case measure =>
        rw [posOf_eq HND.out HB.out, posOf_eq HND.out HA.out]
        omega
    · obtain rfl : k = bs.length := by omega
      obtain rfl : a = h := by simpa using ha.symm
      have HJJ := Lib.hid hj
      have hneq := neq_same Try.prog wr ⟨a, 0, none⟩ und_pe hj1
      clear HW hj rr hnn hh ha
      gi_wp2
      refine ⟨(fun f h => by cases h), ?_⟩
      gi_wp2
      go_end0
      exact ⟨⟨_, rfl⟩, by have := HJJ.out; rw [List.take_length] at this; exact this⟩
theorem info_str : (Try.prog.info? 9).map (fun i => (i.zero, i.size, i.bytes)) = some (some (.string ⟨#[]⟩), 1, 16) := by kernel_rfl
attribute [local go_sem] Oper.semAt_some
set_option maxHeartbeats 4000000 in
set_option maxRecDepth 100000 in
theorem appendSeq_in (F : Fence) (n : Nat) (hA : F.fn 23) (hF : F.fn 22) (hro : F.round = none) (hn1 : 3 ≤ n) {c m h : Nat} {bs : List Nat} {key : Nat → ByteArray} {val : Nat → Int} {most hits gets : Int} (w : World)
    (H : CacheAt NT CT w c m h bs key val most hits gets) (hlen : bs.length ≤ 2000) :
    CallsIn F n Try.prog 23 #[.slice none 0 0, .func (.func 22) #[ptr c] #[]] w fun e W' => ∃ v, e = .returned v ∧ W'.ownsRow w.heap.size 9 1 v bs.length (bs.map fun a => .string (key a)) ∧ Below w.heap.size w W' := by
  obtain ⟨i0, hi, hz0, hz1, hz2⟩ := info_parts info_str
  refine callsIn_of_wp_marks Try.func23 rfl hA ?_ hro
  simp only [Try.ntmps23, List.size_toArray, List.length_cons, List.length_nil, Nat.reduceAdd, Nat.reduceSub, Array.replicate_succ, Array.replicate_zero, List.push_toArray, List.append_toArray, List.nil_append, List.cons_append]
  gi_wp2
  have bO := Boxed.new w 22 (.slice none 0 0)
  have hB0 : Below w.heap.size w (w.alloc (.cells #[.slice none 0 0] 22)) := (Below.refl _ w).alloc (Nat.le_refl _) _
  refine wpIn_range_bound (α := ByteArray) hro (by omega) (gf := 22) (la := #[ptr c]) (lb := #[]) rfl hF (enters_of Try.func22 (by kernel_rfl) rfl) (encs := fun x => #[.string x]) (fun _ => rfl)
    (fun pre W => (∃ v, Boxed W w.heap.size 22 v ∧ W.ownsRow w.heap.size 9 1 v pre.length (pre.map Value.string)) ∧ Below w.heap.size w W) bs.length (bs.map key) ?i0 ?ip ?call
    (fun x => { tmps := #[.slice none 0 0, .func (.func 22) #[ptr c] #[], .pointer (some ⟨w.heap.size, 0, none⟩), undef, .slice none 0 0, .string x, .func (.func 22) #[ptr c] #[], .string x, undef, undef, undef, undef, undef], defers := [] }) ?assign ?body ?done
  case i0 => exact fun o1 o2 => ⟨⟨_, (bO.alloc _).alloc _, World.ownsRow_nil _ _ _ _⟩, (hB0.alloc (by simp) _).alloc (by simp; omega) _⟩
  case ip =>
    rintro pre W l o o' ⟨⟨v, hv, hrow⟩, hB⟩ hl ho hwk hle
    simp only [World.size_alloc] at hle
    have hne : w.heap.size ≠ l := by omega
    exact ⟨⟨v, (World.putObj_heap_other hne).trans hv, ownsRow_putObj hrow _ hl ho⟩, hB.trans (belowK_b (w := w) (Nat.le_refl _) W l _ _ (by omega) hl ho hwk)⟩
  case call =>
    intro J W1 hJ hY h0
    have h := all_in F (n - 1) hF hro (by omega) _ J W1 (fun pre W hj => H.of_blocks fun a ha => (hJ pre W hj).2.block a (H.apart.2 a ha)) hY h0
    exact h
  case assign =>
    intro l x W K hK
    gi_wp2
    exact hK
  case body =>
    rintro l pre x W ⟨⟨v, hv, hrow⟩, hB⟩ hlt ⟨o1, ho1, q1⟩ ⟨o2, ho2, q2⟩
    rw [World.size_alloc] at ho1 ho2
    have hc := hv.cell
    gi_wp2_with (gi_at_builtin; refine wpListIn_append_own _ rfl _ _ 22 rfl w.heap.size 9 i0 (.string ⟨#[]⟩) 1 16 Try.underlying22 hi hz0 hz1 hz2 rfl (by decide) _ _ _ rfl (hrow.alloc _) ⟨W.heap.size, 0, none⟩ 1 1 [.string x] rfl rfl (cell_one_new _ _ _) (by simp [Value.oneCell']) (by unfold maxLen; omega) (by omega) (by have := hB.size; simp; omega) ?_; intro v' w1 hown' hgrow _; obtain ⟨g', cap', rfl⟩ := ownsRow_succ hown'; obtain ⟨hv1, hv2, hr2, hk2, hb2⟩ := hv.appended (by decide) hrow hB.size (Nat.le_refl _) hown' hgrow; have hc1 := hv1.cell; have hf1 := hv1.frozen)
    exact ⟨⟨⟨_, hv2, by simpa using hr2⟩, hB.trans hb2⟩, (hk2.same _ _ ho1 q1).trans ho1.symm, (hk2.same _ _ ho2 q2).trans ho2.symm⟩
  case done =>
    rintro W ⟨⟨v, hv, hrow⟩, hB⟩ hK
    have hc := hv.cell
    gi_wp2
    refine ⟨by simp, .inl ⟨_, _, rfl, run_takeDeferred hK, ?_⟩⟩
    exact ⟨_, results_tmp rfl _ _ _, v, rfl, by have := ownsRow_putObj hrow (Obj.deferred none) hK rfl; rw [List.map_map, List.length_map] at this; exact this, hB.trans (belowK_b (w := w) (Nat.le_refl _) W _ _ _ (by simp) hK rfl rfl)⟩
set_option maxHeartbeats 4000000 in
set_option maxRecDepth 100000 in
theorem C_collect {c m h : Nat} {bs : List Nat} {key : Nat → ByteArray} {val : Nat → Int} {most hits gets : Int} (w : World)
    (H : CacheAt NT CT w c m h bs key val most hits gets) (hlen : bs.length ≤ 2000) :
    Calls Try.prog 21 #[.func (.func 22) #[ptr c] #[]] w fun e W' => ∃ v, e = .returned v ∧ W'.ownsRow w.heap.size 9 1 v bs.length (bs.map fun a => .string (key a)) ∧ Below w.heap.size w W' := by
  have hA := callsIn_wide.1 (appendSeq_in Fence.wide 3 trivial trivial rfl (by omega) w H hlen)
  go_enter Try.func21, Try.ntmps21
  go_wp2_with fail
  go_at_call 23
  with_reducible refine hA.mono ?_
  rintro e w1 ⟨v, rfl, h1, h2⟩
  go_wp2
  go_ret
  exact ⟨v, rfl, h1, h2⟩
set_option maxHeartbeats 4000000 in
set_option maxRecDepth 100000 in
/-- the keys, the one used last first, in a row of their own -/
theorem C_keys {S : List Nat} {c : Nat} {l : PL} {most hits gets : Int} (w : World) (H : Cac w S c l most hits gets) (hlen : l.length ≤ 2000) :
    Calls Try.prog 14 #[ptr c] w fun e W' => ∃ v, e = .returned v ∧ W'.ownsRow w.heap.size 9 1 v l.length (l.map fun p => .string p.1) ∧ Below w.heap.size w W' := by
  obtain ⟨m, h, bs, key, val, rfl, H, rfl⟩ := H
  have e1 : (kvp key val bs).length = bs.length := by simp [kvp]
  have e2 : (kvp key val bs).map (fun p => Value.string p.1) = bs.map fun a => Value.string (key a) := by
    unfold kvp
    rw [List.map_map]
    rfl
  have hC := C_collect w H (by rw [← e1]; exact hlen)
  rw [e2, e1]
  clear e1 e2 hlen H
  go_enter Try.func14, Try.ntmps14
  go_wp2_with fail
  go_at_call 21
  with_reducible refine hC.mono ?_
  rintro e w1 ⟨v, rfl, h1, h2⟩
  go_wp2
  go_ret
  exact ⟨v, rfl, h1, h2⟩
end Go.Proofs.Ytphfomnjhlfdhaa.Cod
