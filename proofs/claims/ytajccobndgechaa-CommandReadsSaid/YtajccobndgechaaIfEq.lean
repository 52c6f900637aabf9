/- '==' of commands: what it answers. -/
import Derived.Test.YtajccobndgechaaCmdB
import Derived.Laws.StructEq
import Derived.ChangeKeysEq
namespace Go.Proofs.Ytajccobndgechaa.Cod
open Go.RowKit
set_option linter.unusedSimpArgs false
theorem fieldsOf_of {P : Program} {t : TypeId} {fs : Array Field} (hu : P.underlying t = some (.struct fs)) : P.fieldsOf t = fs := by simp [Program.fieldsOf, hu]
theorem ieq_diff {t u : TypeId} (v x : Value) (h : t ≠ u) (w : World) : (binOp .eql 88 (.iface t v) (.iface u x)).run Try.prog w = .ok (.bool false) w := by
  have hi := Try.underlying88
  have h : ∀ d : Nat, (Op.equalIn (d + 1) 88 (.iface t v) (.iface u x)).run Try.prog w = .ok false w := fun d => by simp [Op.equalIn, run_underlying hi, h]
  simp only [binOp]
  simp [Op.equal, Op.maxDepth, h 9999]
theorem ieq_nil (w : World) : (binOp .eql 88 .nilIface .nilIface).run Try.prog w = .ok (.bool true) w := by
  have hi := Try.underlying88
  have h : ∀ d : Nat, (Op.equalIn (d + 1) 88 .nilIface .nilIface).run Try.prog w = .ok true w := fun d => by simp [Op.equalIn, run_underlying hi]
  simp only [binOp]
  simp [Op.equal, Op.maxDepth, h 9999]
theorem ieq_nil_l (t : TypeId) (v : Value) (w : World) : (binOp .eql 88 .nilIface (.iface t v)).run Try.prog w = .ok (.bool false) w := by
  have hi := Try.underlying88
  have h : ∀ d : Nat, (Op.equalIn (d + 1) 88 .nilIface (.iface t v)).run Try.prog w = .ok false w := fun d => by simp [Op.equalIn, run_underlying hi]
  simp only [binOp]
  simp [Op.equal, Op.maxDepth, h 9999]
theorem ieq_nil_r (t : TypeId) (v : Value) (w : World) : (binOp .eql 88 (.iface t v) .nilIface).run Try.prog w = .ok (.bool false) w := by
  have hi := Try.underlying88
  have h : ∀ d : Nat, (Op.equalIn (d + 1) 88 (.iface t v) .nilIface).run Try.prog w = .ok false w := fun d => by simp [Op.equalIn, run_underlying hi]
  simp only [binOp]
  simp [Op.equal, Op.maxDepth, h 9999]
theorem ieq_same {t : TypeId} {v x : Value} {b : Bool} {w : World} {i : TypeInfo} (hinfo : Try.prog.info? t = some i) (hcomp : i.comparable = true) (h : ∀ d, (Op.equalIn (d + 2) t v x).run Try.prog w = .ok b w) :
    (binOp .eql 88 (.iface t v) (.iface t x)).run Try.prog w = .ok (.bool b) w := by
  have hi := Try.underlying88
  have h : ∀ d : Nat, (Op.equalIn (d + 3) 88 (.iface t v) (.iface t x)).run Try.prog w = .ok b w := fun d => by
    rw [Op.equalIn]
    simp [run_underlying hi, typeInfo, hinfo, hcomp, h]
  simp only [binOp]
  simp [Op.equal, Op.maxDepth, h 9997]
theorem plain_string : Try.prog.plainKey 9 = true := by kernel_rfl
theorem plain_bool : Try.prog.plainKey 4 = true := by kernel_rfl
theorem plain_int : Try.prog.plainKey 3 = true := by kernel_rfl
theorem comp_of {t : TypeId} (h : (Try.prog.info? t).map (·.comparable) = some true) : ∃ i, Try.prog.info? t = some i ∧ i.comparable = true := by
  cases hq : Try.prog.info? t with
  | none => rw [hq] at h; cases h
  | some i => exact ⟨i, rfl, by rw [hq] at h; simpa using h⟩
theorem toList_inj {s t : ByteArray} : s.toList = t.toList ↔ s = t := by
  rw [ByteArray.toList_eq, ByteArray.toList_eq]
  exact ⟨fun h => bl_inj h, fun h => by rw [h]⟩
theorem seq_block (s s' : ByteArray) (r r' : Bool) : ∃ b : Bool, (∀ (w : World) (d : Nat), (Op.equalIn (d + 2) 134 (.agg #[.string s, .bool r]) (.agg #[.string s', .bool r'])).run Try.prog w = .ok b w) ∧ (b = true ↔ s = s' ∧ r = r') := by
  refine ⟨decide (s.toList = s'.toList) && (r == r'), fun w d => ?_, by simp [toList_inj]⟩
  have hu := Try.underlying134
  have hf := fieldsOf_of hu
  rw [run_equalIn_struct w (d + 1) 134 _ _ (by rw [hf]; exact hu) (by kernel_rfl), hf]
  have p1 := run_part_plain (P := Try.prog) w plain_string (xs := #[.string s, .bool r]) (off := 0) (v := .string s) rfl
  have p2 := run_part_plain (P := Try.prog) w plain_string (xs := #[.string s', .bool r']) (off := 0) (v := .string s') rfl
  have p3 := run_part_plain (P := Try.prog) w plain_bool (xs := #[.string s, .bool r]) (off := 1) (v := .bool r) rfl
  have p4 := run_part_plain (P := Try.prog) w plain_bool (xs := #[.string s', .bool r']) (off := 1) (v := .bool r') rfl
  have e1 := run_equalIn_string (P := Try.prog) w d 9 s s' Try.underlying9
  have e2 := run_equalIn_bool' (P := Try.prog) w d 4 r r' Try.underlying4
  simp [Op.eqFields, p1, p2, p3, p4, e1, e2]
  by_cases hs : s.toList = s'.toList
  · by_cases hr : r = r'
    · simp [hs, hr]
    · simp [hs, hr]
  · simp [hs]
theorem seq_cert (s s' : ByteArray) (r r' : Bool) : ∃ b : Bool, (∀ (w : World) (d : Nat), (Op.equalIn (d + 2) 135 (.agg #[.string s, .bool r]) (.agg #[.string s', .bool r'])).run Try.prog w = .ok b w) ∧ (b = true ↔ s = s' ∧ r = r') := by
  refine ⟨decide (s.toList = s'.toList) && (r == r'), fun w d => ?_, by simp [toList_inj]⟩
  have hu := Try.underlying135
  have hf := fieldsOf_of hu
  rw [run_equalIn_struct w (d + 1) 135 _ _ (by rw [hf]; exact hu) (by kernel_rfl), hf]
  have p1 := run_part_plain (P := Try.prog) w plain_string (xs := #[.string s, .bool r]) (off := 0) (v := .string s) rfl
  have p2 := run_part_plain (P := Try.prog) w plain_string (xs := #[.string s', .bool r']) (off := 0) (v := .string s') rfl
  have p3 := run_part_plain (P := Try.prog) w plain_bool (xs := #[.string s, .bool r]) (off := 1) (v := .bool r) rfl
  have p4 := run_part_plain (P := Try.prog) w plain_bool (xs := #[.string s', .bool r']) (off := 1) (v := .bool r') rfl
  have e1 := run_equalIn_string (P := Try.prog) w d 9 s s' Try.underlying9
  have e2 := run_equalIn_bool' (P := Try.prog) w d 4 r r' Try.underlying4
  simp [Op.eqFields, p1, p2, p3, p4, e1, e2]
  by_cases hs : s.toList = s'.toList
  · by_cases hr : r = r'
    · simp [hs, hr]
    · simp [hs, hr]
  · simp [hs]
theorem seq_mark (s s' : ByteArray) : ∃ b : Bool, (∀ (w : World) (d : Nat), (Op.equalIn (d + 2) 137 (.agg #[.string s]) (.agg #[.string s'])).run Try.prog w = .ok b w) ∧ (b = true ↔ s = s') := by
  refine ⟨decide (s.toList = s'.toList), fun w d => ?_, by simp [toList_inj]⟩
  have hu := Try.underlying137
  have hf := fieldsOf_of hu
  rw [run_equalIn_struct w (d + 1) 137 _ _ (by rw [hf]; exact hu) (by kernel_rfl), hf]
  have p1 := run_part_plain (P := Try.prog) w plain_string (xs := #[.string s]) (off := 0) (v := .string s) rfl
  have p2 := run_part_plain (P := Try.prog) w plain_string (xs := #[.string s']) (off := 0) (v := .string s') rfl
  have e1 := run_equalIn_string (P := Try.prog) w d 9 s s' Try.underlying9
  simp [Op.eqFields, p1, p2, e1]
  by_cases hs : s.toList = s'.toList
  · simp [hs]
  · simp [hs]
theorem seq_clock (s s' : Int) : ∃ b : Bool, (∀ (w : World) (d : Nat), (Op.equalIn (d + 2) 131 (.agg #[.int .i64 s]) (.agg #[.int .i64 s'])).run Try.prog w = .ok b w) ∧ (b = true ↔ s = s') := by
  refine ⟨decide (s = s'), fun w d => ?_, by simp [toList_inj]⟩
  have hu := Try.underlying131
  have hf := fieldsOf_of hu
  rw [run_equalIn_struct w (d + 1) 131 _ _ (by rw [hf]; exact hu) (by kernel_rfl), hf]
  have p1 := run_part_plain (P := Try.prog) w plain_int (xs := #[.int .i64 s]) (off := 0) (v := .int .i64 s) rfl
  have p2 := run_part_plain (P := Try.prog) w plain_int (xs := #[.int .i64 s']) (off := 0) (v := .int .i64 s') rfl
  have e1 := run_equalIn_int (P := Try.prog) w d 3 .i64 .i64 s s' Try.underlying3
  simp [Op.eqFields, p1, p2, e1]
  by_cases hs : s = s'
  · simp [hs]
  · simp [hs]
theorem seq_unmark (w : World) (d : Nat) : (Op.equalIn (d + 2) 139 (.agg #[]) (.agg #[])).run Try.prog w = .ok true w := by
  have hu := Try.underlying139
  have hf := fieldsOf_of hu
  rw [run_equalIn_struct w (d + 1) 139 _ _ (by rw [hf]; exact hu) (by kernel_rfl), hf]
  simp [Op.eqFields]
theorem seq_other (w : World) (d : Nat) : (Op.equalIn (d + 2) 142 (.agg #[]) (.agg #[])).run Try.prog w = .ok true w := by
  have hu := Try.underlying142
  have hf := fieldsOf_of hu
  rw [run_equalIn_struct w (d + 1) 142 _ _ (by rw [hf]; exact hu) (by kernel_rfl), hf]
  simp [Op.eqFields]
/-- '==' of commands. -/
theorem C_ieq (c d : Cmd) : ∃ b : Bool, (∀ w : World, (binOp .eql 88 c.val d.val).run Try.prog w = .ok (.bool b) w) ∧ (b = true ↔ c = d) := by
  cases c with
  | none =>
    cases d with
    | none =>
      exact ⟨true, ieq_nil, by simp⟩
    | block s' r' =>
      exact ⟨false, ieq_nil_l _ _, by simp⟩
    | cert s' r' =>
      exact ⟨false, ieq_nil_l _ _, by simp⟩
    | clock n' =>
      exact ⟨false, ieq_nil_l _ _, by simp⟩
    | mark s' =>
      exact ⟨false, ieq_nil_l _ _, by simp⟩
    | unmark =>
      exact ⟨false, ieq_nil_l _ _, by simp⟩
    | other =>
      exact ⟨false, ieq_nil_l _ _, by simp⟩
  | block s r =>
    cases d with
    | none =>
      exact ⟨false, ieq_nil_r _ _, by simp⟩
    | block s' r' =>
      obtain ⟨b, hb, hq⟩ := seq_block s s' r r'
      obtain ⟨i, hi, hc⟩ := comp_of (t := 134) (by kernel_rfl)
      exact ⟨b, fun w => ieq_same hi hc (hb w), by rw [hq]; simp⟩
    | cert s' r' =>
      exact ⟨false, ieq_diff _ _ (by decide), by simp⟩
    | clock n' =>
      exact ⟨false, ieq_diff _ _ (by decide), by simp⟩
    | mark s' =>
      exact ⟨false, ieq_diff _ _ (by decide), by simp⟩
    | unmark =>
      exact ⟨false, ieq_diff _ _ (by decide), by simp⟩
    | other =>
      exact ⟨false, ieq_diff _ _ (by decide), by simp⟩
  | cert s r =>
    cases d with
    | none =>
      exact ⟨false, ieq_nil_r _ _, by simp⟩
    | block s' r' =>
      exact ⟨false, ieq_diff _ _ (by decide), by simp⟩
    | cert s' r' =>
      obtain ⟨b, hb, hq⟩ := seq_cert s s' r r'
      obtain ⟨i, hi, hc⟩ := comp_of (t := 135) (by kernel_rfl)
      exact ⟨b, fun w => ieq_same hi hc (hb w), by rw [hq]; simp⟩
    | clock n' =>
      exact ⟨false, ieq_diff _ _ (by decide), by simp⟩
    | mark s' =>
      exact ⟨false, ieq_diff _ _ (by decide), by simp⟩
    | unmark =>
      exact ⟨false, ieq_diff _ _ (by decide), by simp⟩
    | other =>
      exact ⟨false, ieq_diff _ _ (by decide), by simp⟩
  | clock n =>
    cases d with
    | none =>
      exact ⟨false, ieq_nil_r _ _, by simp⟩
    | block s' r' =>
      exact ⟨false, ieq_diff _ _ (by decide), by simp⟩
    | cert s' r' =>
      exact ⟨false, ieq_diff _ _ (by decide), by simp⟩
    | clock n' =>
      obtain ⟨b, hb, hq⟩ := seq_clock n n'
      obtain ⟨i, hi, hc⟩ := comp_of (t := 131) (by kernel_rfl)
      exact ⟨b, fun w => ieq_same hi hc (hb w), by rw [hq]; simp⟩
    | mark s' =>
      exact ⟨false, ieq_diff _ _ (by decide), by simp⟩
    | unmark =>
      exact ⟨false, ieq_diff _ _ (by decide), by simp⟩
    | other =>
      exact ⟨false, ieq_diff _ _ (by decide), by simp⟩
  | mark s =>
    cases d with
    | none =>
      exact ⟨false, ieq_nil_r _ _, by simp⟩
    | block s' r' =>
      exact ⟨false, ieq_diff _ _ (by decide), by simp⟩
    | cert s' r' =>
      exact ⟨false, ieq_diff _ _ (by decide), by simp⟩
    | clock n' =>
      exact ⟨false, ieq_diff _ _ (by decide), by simp⟩
    | mark s' =>
      obtain ⟨b, hb, hq⟩ := seq_mark s s'
      obtain ⟨i, hi, hc⟩ := comp_of (t := 137) (by kernel_rfl)
      exact ⟨b, fun w => ieq_same hi hc (hb w), by rw [hq]; simp⟩
    | unmark =>
      exact ⟨false, ieq_diff _ _ (by decide), by simp⟩
    | other =>
      exact ⟨false, ieq_diff _ _ (by decide), by simp⟩
  | unmark =>
    cases d with
    | none =>
      exact ⟨false, ieq_nil_r _ _, by simp⟩
    | block s' r' =>
      exact ⟨false, ieq_diff _ _ (by decide), by simp⟩
    | cert s' r' =>
      exact ⟨false, ieq_diff _ _ (by decide), by simp⟩
    | clock n' =>
      exact ⟨false, ieq_diff _ _ (by decide), by simp⟩
    | mark s' =>
      exact ⟨false, ieq_diff _ _ (by decide), by simp⟩
    | unmark =>
      obtain ⟨i, hi, hc⟩ := comp_of (t := 139) (by kernel_rfl)
      exact ⟨true, fun w => ieq_same hi hc (seq_unmark w), by simp⟩
    | other =>
      exact ⟨false, ieq_diff _ _ (by decide), by simp⟩
  | other =>
    cases d with
    | none =>
      exact ⟨false, ieq_nil_r _ _, by simp⟩
    | block s' r' =>
      exact ⟨false, ieq_diff _ _ (by decide), by simp⟩
    | cert s' r' =>
      exact ⟨false, ieq_diff _ _ (by decide), by simp⟩
    | clock n' =>
      exact ⟨false, ieq_diff _ _ (by decide), by simp⟩
    | mark s' =>
      exact ⟨false, ieq_diff _ _ (by decide), by simp⟩
    | unmark =>
      exact ⟨false, ieq_diff _ _ (by decide), by simp⟩
    | other =>
      obtain ⟨i, hi, hc⟩ := comp_of (t := 142) (by kernel_rfl)
      exact ⟨true, fun w => ieq_same hi hc (seq_other w), by simp⟩
end Go.Proofs.Ytajccobndgechaa.Cod
