/- Names of blocks: which one is the greater; do they rise. Contracts by what each call means. -/
import Derived.Test.YtdpkodhfelnedaaDoorRef
import Derived.Lib.Bytealg
import Derived.Laws.Rows
import Derived.Deep.MidRow
import Derived.StillTailTactics
namespace Go.Proofs.YtdpkodhfelnedaaDoor.Cod
open Go.RowKit
attribute [local go_sem ↓] Go.wp_at_zero Go.wp_at_succ
section
variable {P : Program} {w : World}
theorem run_xload : ∀ (l : List UInt8) (a : Addr) (acc : ByteArray), (∀ j x, l[j]? = some x → w.cell? (a.add j) = some (.int .u8 x.toNat)) →
    (Extern.Bytes.loadBytes a l.length acc).run P w = .ok ⟨acc.data ++ l.toArray⟩ w
  | [], a, acc, _ => by simp [Extern.Bytes.loadBytes]
  | x :: l, a, acc, h => by
    have h0 : w.cell? a = some (.int .u8 x.toNat) := by
      have := h 0 x rfl
      simpa [Addr.add] using this
    have ih := run_xload l (a.add 1) (acc.push x) (fun j y hy => by
      have := h (j + 1) y hy
      have e : (a.add 1).add j = a.add (j + 1) := by unfold Addr.add; by_cases hj : j = 0 <;> simp [hj]; omega
      rw [e]; exact this)
    have hx : ((x.toNat : Int).toNat).toUInt8 = x := by simp
    simp only [List.length_cons, Extern.Bytes.loadBytes, Sem.run_bind, run_load, h0, Result.andThen, hx]
    rw [ih]
    congr 1
    apply ByteArray.ext
    simp [ByteArray.push]
end
theorem run_cmp {P : Program} {w : World} (l m : List UInt8) (b b' c c' : Nat) (h : ∀ j x, l[j]? = some x → w.cell? ⟨b, j, none⟩ = some (.int .u8 x.toNat)) (h' : ∀ j x, m[j]? = some x → w.cell? ⟨b', j, none⟩ = some (.int .u8 x.toNat)) :
    (Extern.BytealgCompare.compare #[.slice (some ⟨b, 0, none⟩) l.length c, .slice (some ⟨b', 0, none⟩) m.length c']).run P w = .ok (.int .i64 (Lib.compareBytes l m)) w := by
  have z : ∀ (b j : Nat), (⟨b, 0, none⟩ : Addr).add j = ⟨b, j, none⟩ := by intro b j; rw [Addr.add_mid]; simp
  have e1 := run_xload (P := P) (w := w) l ⟨b, 0, none⟩ .empty (fun j x hx => by rw [z]; exact h j x hx)
  have e2 := run_xload (P := P) (w := w) m ⟨b', 0, none⟩ .empty (fun j x hx => by rw [z]; exact h' j x hx)
  change Sem.run P (do pure (goInt (Extern.BytealgCompare.cmp (← Extern.Bytes.loadBytes ⟨b, 0, none⟩ l.length .empty) (← Extern.Bytes.loadBytes ⟨b', 0, none⟩ m.length .empty)))) w = _
  simp only [Sem.run_bind, e1, e2, Sem.run_pure, Result.andThen]
  rw [Lib.cmp_eq]
  simp [goInt]
/-- a name's value -/
def idv (l : List UInt8) : Value := .agg (Lib.byteCells l).toArray
set_option maxHeartbeats 800000 in
set_option maxRecDepth 100000 in
theorem C_bcmp (l m : List UInt8) (b b' c c' : Nat) (w : World) (h : ∀ j x, l[j]? = some x → w.cell? ⟨b, j, none⟩ = some (.int .u8 x.toNat)) (h' : ∀ j x, m[j]? = some x → w.cell? ⟨b', j, none⟩ = some (.int .u8 x.toNat)) :
    Calls Tryd.prog 44 #[.slice (some ⟨b, 0, none⟩) l.length c, .slice (some ⟨b', 0, none⟩) m.length c'] w fun e w' => e = .returned (.int .i64 (Lib.compareBytes l m)) ∧ w = w' := by
  have hr := run_cmp (P := Tryd.prog) (w := w) l m b b' c c' h h'
  clear h h'
  go_enter Tryd.func44, Tryd.ntmps44
  go_wp2
  rw [run_callFunc_extern Tryd.func51 (by kernel_rfl) (by kernel_rfl) (by kernel_rfl) (e := Extern.BytealgCompare.compare) (by kernel_rfl)]
  rw [hr]
  simp only [Result.andThen]
  rw [Oper.upon_value]
  go_wp2
  go_ret
  exact ⟨rfl, rfl⟩
theorem byteCells_get {l : List UInt8} {j : Nat} {x : UInt8} (h : l[j]? = some x) : (Lib.byteCells l).toArray[j]? = some (Value.int .u8 x.toNat) := by
  simp [Lib.byteCells, h]
set_option maxHeartbeats 800000 in
set_option maxRecDepth 100000 in
theorem C_cmp (l m : List UInt8) (hl : l.length = 32) (hm : m.length = 32) (w : World) :
    Calls Tryd.prog 38 #[idv l, idv m] w fun e w' => e = .returned (.int .i64 (Lib.compareBytes l m)) ∧ Below w.heap.size w w' := by
  have zl : (Lib.byteCells l).toArray.size = 32 := by simp [Lib.byteCells, hl]
  have zm : (Lib.byteCells m).toArray.size = 32 := by simp [Lib.byteCells, hm]
  have cl : ∀ (j : Nat) (x : UInt8), l[j]? = some x → (Lib.byteCells l).toArray[j]? = some (Value.int .u8 x.toNat) := fun j x h => byteCells_get h
  have cm : ∀ (j : Nat) (x : UInt8), m[j]? = some x → (Lib.byteCells m).toArray[j]? = some (Value.int .u8 x.toNat) := fun j x h => byteCells_get h
  unfold idv
  generalize (Lib.byteCells l).toArray = L at zl cl
  generalize (Lib.byteCells m).toArray = M at zm cm
  have hB := C_bcmp l m w.heap.size (w.heap.size + 1) 32 32 ((w.alloc (.cells L 36)).alloc (.cells M 36)).drew
    (fun j x h => (cell_of_row _ _ j L _ _ (heap_alloc2_old w _ _)).trans (cl j x h)) (fun j x h => (cell_of_row _ _ j M _ _ (heap_alloc2_new w _ _)).trans (cm j x h))
  rw [hl, hm] at hB
  clear cl cm
  go_enter Tryd.func38, Tryd.ntmps38
  go_wp2
  go_region_with ((go_at_call 44; ((with_reducible refine hB.mono ?_); rintro e w1 ⟨rfl, rfl⟩)))
  all_goals
    go_wp2
    go_ret
    exact ⟨rfl, (((Below.refl _ _).alloc (Nat.le_refl _) _).alloc (by simp) _).drew⟩
/-- a row of names: from element 0 on, at o in block g -/
def IdsAt (w : World) (A : Option Addr) (l : List (List UInt8)) : Prop :=
  ∀ i (h : i < l.length), l[i].length = 32 ∧ ∃ g o, A = some ⟨g, o, none⟩ ∧ g < w.heap.size ∧ w.rangeAt g (o + i * 32) (Lib.byteCells l[i])
def rises : List (List UInt8) → Bool | a :: b :: l => decide (Lib.compareBytes a b < 0) && rises (b :: l) | _ => true
theorem rises_get {l : List (List UInt8)} : rises l = true ↔ ∀ i (h : i + 1 < l.length), Lib.compareBytes l[i] l[i + 1] < 0 := by
  induction l with
  | nil => simp [rises]
  | cons a l ih =>
    cases l with
    | nil => simp [rises]
    | cons b l =>
      simp only [rises, Bool.and_eq_true, decide_eq_true_eq, ih]
      constructor
      · rintro ⟨h0, h1⟩ i hi
        cases i with
        | zero => simpa using h0
        | succ i => exact h1 i (by simpa using hi)
      · intro h
        exact ⟨by simpa using h 0 (by simp), fun i hi => h (i + 1) (by simpa using hi)⟩
/-- a load of an array among operations that only read -/
theorem still_load_mid {P : Program} {ops : Array Oper} {w : World} {Q : Act → Prop} {a : Act} {op : Oper} {rest : List Oper} (hgd : op.guard = none) (ty : TypeId) (x : Operand) (ho : op.op = .load ty x)
    (b o : Nat) (hx : a.eval x = .pointer (some ⟨b, o, none⟩)) (cs : List Value) (d : TypeDesc) (hc : w.rangeAt b o cs) (hu : P.underlying ty = some d) (hd : d.isRow = true) (hi : (P.info? ty).map (·.size) = some cs.length)
    (h : wpStill P ops w Q rest (a.put op.dst (.agg cs.toArray))) : wpStill P ops w Q (op :: rest) a := by
  have hw : Region.wanted op (yielded ops a.tmps) = true := by unfold Region.wanted; rw [hgd]
  unfold wpStill
  rw [if_pos hw]
  unfold Oper.still execOp
  simp only [ho, hx, Instr.loadAt, Instr.sureAddr, Sem.run_bind, Sem.run_pure, Result.andThen_ok, run_loadVar_mid w b o ty cs d hc hu hd hi]
  exact ⟨rfl, h⟩
def RiseRel (w : World) (l : List (List UInt8)) (i : Value) (wr : World) : Prop :=
  ∃ k : Nat, 1 ≤ k ∧ (k ≤ l.length ∨ k = 1) ∧ i = .int .i64 k ∧ (∀ j (h : j + 1 < l.length), j + 1 < k → Lib.compareBytes l[j] l[j + 1] < 0) ∧ Below w.heap.size w wr
theorem all_one (l : List UInt8) : ∀ v ∈ Lib.byteCells l, v.oneCell' = true := by
  intro v hv
  obtain ⟨x, _, rfl⟩ := List.mem_map.1 hv
  rfl
set_option maxHeartbeats 1600000 in
set_option maxRecDepth 100000 in
theorem C_rise {w : World} {A : Option Addr} {c : Nat} {l : List (List UInt8)} (h : IdsAt w A l) (h63 : l.length ≤ 4611686018427387904) :
    Calls Tryd.prog 29 #[.slice A l.length c] w fun e w' => e = .returned (.bool (rises l)) ∧ Below w.heap.size w w' := by
  go_enter Tryd.func29, Tryd.ntmps29
  go_wp2
  go_loopw [3] (fun i wr => RiseRel w l i wr) (fun i _ => l.length - (intOf i).toNat)
  case atStart => exact ⟨1, by omega, .inr rfl, rfl, fun j _ hj => absurd hj (by omega), Below.refl _ _⟩
  case round =>
    obtain ⟨k, hk1, hk, rfl, hr, hb⟩ := hrel
    by_cases hlt : k < l.length
    · obtain ⟨j, hkj⟩ : ∃ j, k = j + 1 := ⟨k - 1, by omega⟩
      have hjl : j < l.length := by omega
      have hltI : (k : Int) < (l.length : Int) := by omega
      obtain ⟨z1, g, o, rfl, hg, r1⟩ := h j hjl
      obtain ⟨z2, g', o', e', _, r2⟩ := h k hlt
      injection e' with e'
      injection e' with e1 e2 _
      subst e1 e2
      have hbg : ∀ (x : Nat) (cs : List Value), w.rangeAt g x cs → wr.rangeAt g x cs := fun x cs hc q v hv => (hb.cell (p := ⟨g, _, none⟩) hg).trans (hc q v hv)
      have r1 : wr.drew.rangeAt g (o + j * 32) (Lib.byteCells l[j]) := hbg _ _ r1
      have r2 : wr.drew.rangeAt g (o + k * 32) (Lib.byteCells l[k]) := hbg _ _ r2
      have hcc := fun v => C_cmp l[j] l[k] z1 z2 v
      have hrj : rises l = true → Lib.compareBytes l[j] l[k] < 0 := fun e => by subst hkj; exact rises_get.1 e j hlt
      have hrk : Lib.compareBytes l[j] l[k] < 0 → ∀ i (h : i + 1 < l.length), i + 1 < k + 1 → Lib.compareBytes l[i] l[i + 1] < 0 := by
        intro e i hi hik
        by_cases h : i + 1 < k
        · exact hr i hi h
        · obtain rfl : i = j := by omega
          subst hkj
          exact e
      have o1 := all_one l[j]
      have o2 := all_one l[k]
      unfold idv at hcc
      have y1 : (Lib.byteCells l[j]).length = 32 := by rw [Lib.byteCells_length]; exact z1
      have y2 : (Lib.byteCells l[k]).length = 32 := by rw [Lib.byteCells_length]; exact z2
      generalize Lib.byteCells l[j] = X at r1 hcc o1 y1
      generalize Lib.byteCells l[k] = Y at r2 hcc o2 y2
      have hu := Tryd.underlying36
      have hi1 : (Tryd.prog.info? 36).map (·.size) = some X.length := by rw [y1]; kernel_rfl
      have hi2 : (Tryd.prog.info? 36).map (·.size) = some Y.length := by rw [y2]; kernel_rfl
      have hj0 : (0 : Int) ≤ (j : Int) := by omega
      have hj1 : (j : Int) < (l.length : Int) := by omega
      have hk0 : (0 : Int) ≤ (k : Int) := by omega
      have hw1 : IntKind.i64.wrap ((k : Int) - 1) = (j : Int) := (IntWalk.i64_in _ (by omega)).trans (by omega)
      clear z1 z2 hbg hr h hkj
      generalize Lib.compareBytes l[j] l[k] = q at hcc hrj hrk
      by_cases hq : q < 0
      · have hq' : ¬ q ≥ 0 := by omega
        have hrk := Lib.hid (hrk hq)
        clear hrj
        go_wp2
        refine wp_region_still_tail 9 (by kernel_rfl) (by kernel_rfl) ?_
        simp only [List.take_succ_cons, List.take_zero, List.drop_succ_cons, List.drop_zero]
        still_step
        still_step
        still_step
        still_step
        refine still_load_mid rfl _ _ (by rfl) g (o + j * 32) (by rfl) X _ r1 hu rfl hi1 ?_
        still_step
        still_step
        still_step
        refine still_load_mid rfl _ _ (by rfl) g (o + k * 32) (by rfl) Y _ r2 hu rfl hi2 ?_
        refine wpStill_nil ?_
        change wpList _ _ _ _ _ wr.drew
        go_wp2_with (go_at_call 38; with_reducible refine (hcc _).mono ?_; rintro e w1 ⟨rfl, hw1⟩)
        go_roundw
        case rel => exact ⟨k + 1, by omega, .inl (by omega), by go_num, fun i h1 h2 => hrk.out i h1 h2, hb.trans (((Below.refl wr.heap.size wr).drew.trans hw1).mono hb.size)⟩
        case measure => simp [intOf]; omega
      · have hq' : q ≥ 0 := by omega
        go_wp2
        refine wp_region_still_tail 9 (by kernel_rfl) (by kernel_rfl) ?_
        simp only [List.take_succ_cons, List.take_zero, List.drop_succ_cons, List.drop_zero]
        still_step
        still_step
        still_step
        still_step
        refine still_load_mid rfl _ _ (by rfl) g (o + j * 32) (by rfl) X _ r1 hu rfl hi1 ?_
        still_step
        still_step
        still_step
        refine still_load_mid rfl _ _ (by rfl) g (o + k * 32) (by rfl) Y _ r2 hu rfl hi2 ?_
        refine wpStill_nil ?_
        change wpList _ _ _ _ _ wr.drew
        go_wp2_with (go_at_call 38; with_reducible refine (hcc _).mono ?_; rintro e w1 ⟨rfl, hw1⟩)
        go_wp2
        go_ret
        refine ⟨ret_bool (Eq.symm ?_), hb.trans (((Below.refl wr.heap.size wr).drew.trans hw1).mono hb.size)⟩
        cases hc : rises l with
        | false => rfl
        | true => exact absurd (hrj hc) (by omega)
    · have hltI : ¬ (k : Int) < (l.length : Int) := by omega
      have HR := Lib.hid hr
      clear hr
      go_wp2
      go_ret
      refine ⟨ret_bool (Eq.symm (rises_get.2 fun i hi => HR.out i hi ?_)), hb⟩
      omega
end Go.Proofs.YtdpkodhfelnedaaDoor.Cod
