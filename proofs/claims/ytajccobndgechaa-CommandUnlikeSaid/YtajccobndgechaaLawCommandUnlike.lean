/- CommandUnlike: the row, out of its walk. No condition. -/
import Derived.Lib.SmallJoins
import Derived.Test.YtajccobndgechaaRows
import Derived.Test.YtajccobndgechaaWalkCommandUnlike
import Derived.WalkKit
import Derived.ProofKit
import Derived.OpenShut
import Derived.ShutString
import Derived.ChangeOld
import Derived.Below
import Derived.SizedLaws
namespace Go.Proofs.Ytajccobndgechaa.commandUnlike
open Go.ChangeShapes Go.WideShapes Go.ChangeAt Go.RowKit
open Go.ChangeMaps (open_string shut_string)
set_option linter.unusedVariables false
open Go.Joins
theorem cells92 : Try.prog.cellsOf 92 = 4 := by kernel_rfl
theorem sized_agg {H : Type} {P : Program} {ts : List TypeId} {ds : List (DataW H)} (h : (DataW.weightsEach P ts ds).all (· ≤ reachBytes) = true) {j : Nat} {t : TypeId} {fs : Array Field} {parts : List (DataW H)} (ht : ts[j]? = some t) (hd : ds[j]? = some (.agg parts)) (hu : P.underlying t = some (.struct fs)) :
    (DataW.weightsEach P (fs.toList.map (·.type)) parts).all (· ≤ reachBytes) = true := List.all_eq_true.2 fun n hn => List.all_eq_true.1 h n (DataW.weights_mem_each ht hd n (by simp only [DataW.weights, hu]; exact hn))
theorem laidOut : laidOutB Try.prog = true := by kernel_rfl
theorem own : ownKnob Try.prog.godebug = none := by kernel_rfl
set_option maxRecDepth 100000 in
theorem lifted (os : Os) (started : os.Started) (H : Type) (enc : TypeId × Value → H) :
    ReturnsInHanded {} Try.checked os 13 .any (Rows.commandUnlikeSpec.pre6 enc Try.prog Try.f13 Rows.commandUnlikeRow.domain false) (Rows.commandUnlikeSpec.post enc Try.prog Try.f13 false true false false) := by
  refine returnsInHanded_of_change_sized (C := Try.checked) own started (by kernel_rfl) Try.func13
    (ChangeSpec.witness6 (enc := enc) (C := Try.checked) false ⟨#[], #[.agg #[.int .i64 0, .string ByteArray.empty, .bool false, .int .i64 0], .agg #[.int .i64 0, .string ByteArray.empty, .bool false, .int .i64 0]], []⟩ 8 (by kernel_rfl) (by kernel_rfl) (by kernel_rfl) (by kernel_rfl)) ?_
  intro W base args ds gs before hval0 hW hcnd hsz0 _
  have hsz : (DataW.weightsEach Try.prog (Try.f13.params.toList ++ Rows.commandUnlikeSpec.plain.varTypes Try.prog) (ds ++ gs)).all (· ≤ reachBytes) = true := hsz0
  have hval : ∀ (j : Nat) t v, Try.f13.params[j]? = some t → args[j]? = some v → Value.okWide Try.prog W .any base t v := hval0
  have hW' := hW
  obtain ⟨p, q, hA0, hV, rfl, hfz, hnd⟩ := hW
  have hA : DataW.TrodAll enc Try.prog W 0 (fun _ => true) true Try.f13.params.toList args.toList ds p := hA0
  rw [Try.params13] at hA hval hsz
  obtain ⟨v0, vs0, d0, ds0, p0, q0, hargs, rfl, rfl, h0, r0⟩ := trodAll_cons hA
  obtain ⟨v1, vs1, d1, ds1, p1, q1, rfl, rfl, rfl, h1, r1⟩ := trodAll_cons r0
  obtain ⟨rfl, rfl, rfl⟩ := trodAll_nil r1
  obtain rfl : args = #[v0, v1] := by cases args; simp_all
  obtain ⟨rfl, rfl⟩ := trodVars_none hV
  have k0 := h0
  have lt0 : ∀ x ∈ p0, x.block < W.heap.size := by obtain ⟨m, hm⟩ := k0; exact DataW.trod_lt m _ _ _ hm
  obtain ⟨c0_0, c0_1, c0_2, c0_3, y0_0, y0_1, y0_2, y0_3, m0, rfl, rfl, rfl, t0_0, t0_1, t0_2, t0_3⟩ := open_agg4 Try.underlying92 (by kernel_rfl) cells92 (hval 0 92 v0 rfl rfl) h0
  obtain ⟨a0_0, e0_0, rfl, w0_0⟩ := DataW.trod_int Try.underlying3 t0_0
  have b0_0 : a0_0 ≤ 9223372036854775807 ∧ -9223372036854775808 ≤ a0_0 := by have := bounds_i64 w0_0; omega
  obtain rfl := (List.cons.inj e0_0).1
  obtain ⟨a0_1, e0_1, rfl, w0_1⟩ := DataW.trod_string Try.underlying9 t0_1
  obtain rfl := (List.cons.inj e0_1).1
  obtain ⟨a0_2, e0_2, rfl⟩ := DataW.trod_bool Try.underlying4 t0_2
  obtain rfl := (List.cons.inj e0_2).1
  obtain ⟨a0_3, e0_3, rfl, w0_3⟩ := DataW.trod_int Try.underlying3 t0_3
  have b0_3 : a0_3 ≤ 9223372036854775807 ∧ -9223372036854775808 ≤ a0_3 := by have := bounds_i64 w0_3; omega
  obtain rfl := (List.cons.inj e0_3).1
  have b0_1 : a0_1.size ≤ 140737488351232 := by
    have z := sized_string (sized_agg hsz (j := 0) (t := 92) rfl rfl Try.underlying92) (j := 1) (t := 9) rfl rfl
    rw [Array.length_toList] at z
    exact z
  have k1 := h1
  have lt1 : ∀ x ∈ p1, x.block < W.heap.size := by obtain ⟨m, hm⟩ := k1; exact DataW.trod_lt m _ _ _ hm
  obtain ⟨c1_0, c1_1, c1_2, c1_3, y1_0, y1_1, y1_2, y1_3, m1, rfl, rfl, rfl, t1_0, t1_1, t1_2, t1_3⟩ := open_agg4 Try.underlying92 (by kernel_rfl) cells92 (hval 1 92 v1 rfl rfl) h1
  obtain ⟨a1_0, e1_0, rfl, w1_0⟩ := DataW.trod_int Try.underlying3 t1_0
  have b1_0 : a1_0 ≤ 9223372036854775807 ∧ -9223372036854775808 ≤ a1_0 := by have := bounds_i64 w1_0; omega
  obtain rfl := (List.cons.inj e1_0).1
  obtain ⟨a1_1, e1_1, rfl, w1_1⟩ := DataW.trod_string Try.underlying9 t1_1
  obtain rfl := (List.cons.inj e1_1).1
  obtain ⟨a1_2, e1_2, rfl⟩ := DataW.trod_bool Try.underlying4 t1_2
  obtain rfl := (List.cons.inj e1_2).1
  obtain ⟨a1_3, e1_3, rfl, w1_3⟩ := DataW.trod_int Try.underlying3 t1_3
  have b1_3 : a1_3 ≤ 9223372036854775807 ∧ -9223372036854775808 ≤ a1_3 := by have := bounds_i64 w1_3; omega
  obtain rfl := (List.cons.inj e1_3).1
  have b1_1 : a1_1.size ≤ 140737488351232 := by
    have z := sized_string (sized_agg hsz (j := 1) (t := 92) rfl rfl Try.underlying92) (j := 1) (t := 9) rfl rfl
    rw [Array.length_toList] at z
    exact z
  clear hA0 hval0 hsz0 hsz
  refine (Cod.W_CommandUnlike a0_0 a0_1 a0_2 a0_3 a1_0 a1_1 a1_2 a1_3 b0_0.1 b0_0.2 b0_1 b0_3.1 b0_3.2 b1_0.1 b1_0.2 b1_1 b1_3.1 b1_3.2 W).mono fun e W' ⟨he, bel⟩ => ?_
  subst he
  exact ⟨_, rfl, _, _, _, [], _, [], hW', trodAll_mk1 (shut_bool Try.underlying4 _), (trodAll_cons_mk (Below.trod laidOut (by kernel_rfl) (of_decide_eq_true (by kernel_rfl)) k0 bel lt0) (trodAll_cons_mk (Below.trod laidOut (by kernel_rfl) (of_decide_eq_true (by kernel_rfl)) k1 bel lt1) trodAll_mk0)), rfl, bel.frame _, fun h => by cases h⟩
theorem over : Rows.commandUnlikeRow.holds Try.pinned (OpenSpec.ofChange Rows.commandUnlikeSpec) :=
  OpenClaim.holds_of_wide 13 Try.f13 rfl rfl rfl rfl rfl rfl rfl ⟨rfl, rfl, rfl, rfl, rfl⟩ rfl rfl rfl rfl rfl (by kernel_rfl) Try.func13 (by kernel_rfl)
    (of_decide_eq_true (by kernel_rfl)) (by unfold Func.isWrapper; first | (rw [if_pos (by decide +kernel)]; kernel_rfl) | (rw [if_neg (by decide +kernel)]; exact ⟨rfl, rfl⟩))
    (fun os started H enc _ => lifted os started H enc)
theorem proved : Rows.CommandUnlikeSaid := over
#print axioms proved
end Go.Proofs.Ytajccobndgechaa.commandUnlike
namespace Go.Proofs.Ytajccobndgechaa
/-- The row, under a short name, for the claim. -/
theorem commandUnlike_holds : Rows.CommandUnlikeSaid := commandUnlike.proved
end Go.Proofs.Ytajccobndgechaa
