/- The fixed fact of the cache's laws. -/
import Derived.Test.YtphfomnjhlfdhaaCaC
namespace Go.Proofs.Ytphfomnjhlfdhaa.Cod
open Go.RowKit
abbrev ka : ByteArray := { data := #[97] }
abbrev kb : ByteArray := { data := #[98] }
abbrev kc : ByteArray := { data := #[99] }
set_option maxHeartbeats 4000000 in
set_option maxRecDepth 100000 in
theorem C_awake12 (w : World) : Calls Try.prog 6 #[] w fun e w' => e = .returned (.bool true) ∧ Below w.heap.size w w' := by
  go_enter Try.func6, Try.ntmps6
  go_wp2_with fail
  go_at_call 7
  with_reducible refine (C_new _ _).mono ?_
  rintro e w1 ⟨c, S1, rfl, h1, b1, n1⟩
  have h1' : Cac w1 S1 c [] 2 0 0 := h1
  have p1 := C_put w1 h1' ka 1 (by omega) (by simp)
  have B1 := Lib.hid b1
  have N1 := Lib.hid n1
  clear h1 h1' b1 n1
  go_wp2_with fail
  go_at_call 12
  with_reducible refine p1.mono ?_
  rintro e w2 ⟨rfl, S2, h2, t2, f2⟩
  have e2 : (luse [] ka 1).take (2 : Int).toNat = [(ka, 1)] := by decide
  rw [e2] at h2
  have p2 := C_put w2 h2 kb 2 (by omega) (by simp)
  have B2 := Lib.hid (B1.out.trans (t2.below N1.out B1.out.size))
  have N2 := Lib.hid (show ∀ a ∈ S2, w.heap.size ≤ a from fun a ha => (f2 a ha).elim (N1.out a) fun q => Nat.le_trans B1.out.size q)
  clear h2 t2 f2 e2 p1
  go_wp2_with fail
  go_at_call 12
  with_reducible refine p2.mono ?_
  rintro e w3 ⟨rfl, S3, h3, t3, f3⟩
  have e3 : (luse [(ka, 1)] kb 2).take (2 : Int).toNat = [(kb, 2), (ka, 1)] := by decide
  rw [e3] at h3
  have p3 := C_get w3 h3 ka (by omega) (by omega) (by omega) (by omega)
  have B3 := Lib.hid (B2.out.trans (t3.below N2.out B2.out.size))
  have N3 := Lib.hid (show ∀ a ∈ S3, w.heap.size ≤ a from fun a ha => (f3 a ha).elim (N2.out a) fun q => Nat.le_trans B2.out.size q)
  have q3 : lfind [(kb, 2), (ka, 1)] ka = some 1 := by decide
  have r3 : luse [(kb, 2), (ka, 1)] ka 1 = [(ka, 1), (kb, 2)] := by decide
  unfold GetAt lgot at p3
  rw [q3] at p3
  simp only [r3, Option.getD_some, Option.isSome_some, if_true] at p3
  clear h3 t3 f3 e3 p2 q3 r3
  go_wp2_with fail
  go_at_call 15
  with_reducible refine p3.mono ?_
  rintro e w4 ⟨rfl, S4, h4, t4, f4⟩
  have p4 := C_put w4 h4 kc 3 (by omega) (by simp)
  have B4 := Lib.hid (B3.out.trans (t4.below N3.out B3.out.size))
  have N4 := Lib.hid (show ∀ a ∈ S4, w.heap.size ≤ a from fun a ha => (f4 a ha).elim (N3.out a) fun q => Nat.le_trans B3.out.size q)
  clear h4 t4 f4 p3
  go_wp2_with fail
  go_at_call 12
  with_reducible refine p4.mono ?_
  rintro e w5 ⟨rfl, S5, h5, t5, f5⟩
  have e5 : (luse [(ka, 1), (kb, 2)] kc 3).take (2 : Int).toNat = [(kc, 3), (ka, 1)] := by decide
  rw [e5] at h5
  have p5 := C_get w5 h5 kb (by omega) (by omega) (by omega) (by omega)
  have B5 := Lib.hid (B4.out.trans (t5.below N4.out B4.out.size))
  have N5 := Lib.hid (show ∀ a ∈ S5, w.heap.size ≤ a from fun a ha => (f5 a ha).elim (N4.out a) fun q => Nat.le_trans B4.out.size q)
  have q5 : lfind [(kc, 3), (ka, 1)] kb = none := by decide
  unfold GetAt lgot at p5
  rw [q5] at p5
  simp only [Option.getD_none, Option.isSome_none, Bool.false_eq_true, if_false] at p5
  clear h5 t5 f5 e5 p4 q5
  go_wp2_with fail
  go_at_call 15
  with_reducible refine p5.mono ?_
  rintro e w6 ⟨rfl, S6, h6, t6, f6⟩
  have p6 := C_len w6 h6
  have B6 := Lib.hid (B5.out.trans (t6.below N5.out B5.out.size))
  clear h6 t6 f6 p5
  go_wp2_with fail
  go_at_call 11
  with_reducible refine p6.mono ?_
  rintro e w7 ⟨rfl, rfl⟩
  go_wp2
  go_ret
  exact ⟨rfl, B6.out⟩
end Go.Proofs.Ytphfomnjhlfdhaa.Cod
