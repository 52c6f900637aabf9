-- Written by a program of this session (wip/print): no text of the kit's print.sh.
import Derived.Test.YtclmdidgioggdaaQx0
import Derived.Test.YtclmdidgioggdaaQx3
import Derived.Test.YtclmdidgioggdaaQx6
import Derived.Test.YtclmdidgioggdaaQx9
import Derived.Test.YtclmdidgioggdaaQx16
import Derived.Test.YtclmdidgioggdaaQx20
import Derived.Test.YtclmdidgioggdaaQx22
import Derived.Test.YtclmdidgioggdaaQx24
import Derived.Test.YtclmdidgioggdaaQx27
import Derived.Test.YtclmdidgioggdaaQx30
import Derived.Test.YtclmdidgioggdaaQx35
import Derived.Test.YtclmdidgioggdaaQx39
namespace Go.Proofs.Ytclmdidgioggdaa.Q
open Go.RowKit Go.Proofs.YtclmdidgioggdaaW.PrintWords Go.Proofs.YtclmdidgioggdaaW.PrintLast Go.Proofs.YtclmdidgioggdaaW.PrintMore
attribute [local go_sem] max2_int min2_int max_two min_two max_three min_three max_four min_four   -- for this text's walks alone
set_option linter.unusedVariables false
set_option linter.unusedSimpArgs false

/-! ### coxswainlaw03_NatOne: function 12 -/
mutual
def coxswainlaw03_NatOne.j0 : Nat → Int → List Int → Int → Bool → Bool → List Int → List Int → Option (Bool)
  | 0, _, _, _, _, _, _, _ => none
  | k + 1, x1, x6, x8, x9, x73, x576000, x582000 => if x73 = true then (some false) else (if x9 = true then ((coxswainref03_Div.f k x6 (wrap64 (x1))).bind fun bt597 => ((nat_Nat_Text.f k x582000).bind fun t601 => ((coxswainref03_Text.f k bt597.1).bind fun t602 => (if t601.toList = t602.toList then (if (wrap64 (x8)) = bt597.2 then (coxswainlaw03_NatOne.j1 k x576000) else (some false)) else (some false))))) else (coxswainlaw03_NatOne.j1 k x576000))
def coxswainlaw03_NatOne.j1 : Nat → List Int → Option (Bool)
  | 0, _ => none
  | k + 1, x576000 => (nat_Nat_Small.f x576000).bind fun bt603 => ((nat_Nat_Bits.f x576000).bind fun t605 => (if (bt603.2 == (decide (t605 ≤ 64))) = true then (if bt603.2 = true then ((nat_Of.f k bt603.1).bind fun t606 => ((nat_Nat_Cmp.f k t606 x576000).bind fun t609 => (if t609 = 0 then (some true) else (some false)))) else (some (bt603.1 == 0))) else (some false)))
end
def coxswainlaw03_NatOne.f (k : Nat) (a0 : ByteArray) (a1 : Int) : Option (Bool) := (coxswainlaw03_awake.f k).bind fun t568 => (if t568 = true then ((coxswainlaw03_Of.f k a0 80).bind fun bt569 => ((nat_Nat_Div.f k bt569.1 a1).bind fun bt576 => (if (bt576.2.2 != (decide (a1 > 0))) = true then (coxswainlaw03_NatOne.j0 k a1 bt569.2 bt576.2.1 bt576.2.2 true bt569.1 bt576.1) else (if bt576.2.2 = true then ((nat_Nat_Bits.f bt569.1).bind fun t582 => ((coxswainref03_Bits.f k bt569.2).bind fun t583 => (if t582 = t583 then ((nat_Nat_Zero.f bt569.1).bind fun t584 => (if (t584 != ((bt569.2.length : Int) == 0)) = true then (coxswainlaw03_NatOne.j0 k a1 bt569.2 bt576.2.1 bt576.2.2 true bt569.1 bt576.1) else ((nat_Nat_Bytes.f k bt569.1).bind fun t585 => ((coxswainref03_Bytes.f k bt569.2).bind fun t586 => (if t585.toList = t586.toList then ((nat_Nat_Text.f k bt569.1).bind fun t587 => ((coxswainref03_Text.f k bt569.2).bind fun t588 => (coxswainlaw03_NatOne.j0 k a1 bt569.2 bt576.2.1 bt576.2.2 (t587.toList != t588.toList) bt569.1 bt576.1))) else (coxswainlaw03_NatOne.j0 k a1 bt569.2 bt576.2.1 bt576.2.2 true bt569.1 bt576.1)))))) else (coxswainlaw03_NatOne.j0 k a1 bt569.2 bt576.2.1 bt576.2.2 true bt569.1 bt576.1)))) else ((nat_Nat_Zero.f bt576.1).bind fun t589 => (if t589 = true then (if bt576.2.1 = 0 then ((nat_Nat_Bits.f bt569.1).bind fun t590 => ((coxswainref03_Bits.f k bt569.2).bind fun t591 => (if t590 = t591 then ((nat_Nat_Zero.f bt569.1).bind fun t592 => (if (t592 != ((bt569.2.length : Int) == 0)) = true then (coxswainlaw03_NatOne.j0 k a1 bt569.2 bt576.2.1 bt576.2.2 true bt569.1 bt576.1) else ((nat_Nat_Bytes.f k bt569.1).bind fun t593 => ((coxswainref03_Bytes.f k bt569.2).bind fun t594 => (if t593.toList = t594.toList then ((nat_Nat_Text.f k bt569.1).bind fun t595 => ((coxswainref03_Text.f k bt569.2).bind fun t596 => (coxswainlaw03_NatOne.j0 k a1 bt569.2 bt576.2.1 bt576.2.2 (t595.toList != t596.toList) bt569.1 bt576.1))) else (coxswainlaw03_NatOne.j0 k a1 bt569.2 bt576.2.1 bt576.2.2 true bt569.1 bt576.1)))))) else (coxswainlaw03_NatOne.j0 k a1 bt569.2 bt576.2.1 bt576.2.2 true bt569.1 bt576.1)))) else (coxswainlaw03_NatOne.j0 k a1 bt569.2 bt576.2.1 bt576.2.2 true bt569.1 bt576.1)) else (coxswainlaw03_NatOne.j0 k a1 bt569.2 bt576.2.1 bt576.2.2 true bt569.1 bt576.1))))))) else (some false))
theorem coxswainlaw03_NatOne.mono_l : ∀ k, (∀ y0 y1 y2 y3 y4 y5 y6, LeO (coxswainlaw03_NatOne.j0 k y0 y1 y2 y3 y4 y5 y6) (coxswainlaw03_NatOne.j0 (k + 1) y0 y1 y2 y3 y4 y5 y6)) ∧ (∀ y0, LeO (coxswainlaw03_NatOne.j1 k y0) (coxswainlaw03_NatOne.j1 (k + 1) y0))
  | 0 => ⟨fun _ _ _ _ _ _ _ r h => by simp [coxswainlaw03_NatOne.j0] at h, fun _ r h => by simp [coxswainlaw03_NatOne.j1] at h⟩
  | k + 1 => by
    obtain ⟨ih0, ih1⟩ := coxswainlaw03_NatOne.mono_l k
    refine ⟨?_, ?_⟩
    · intro y0 y1 y2 y3 y4 y5 y6
      unfold coxswainlaw03_NatOne.j0
      repeat' first
      | (with_reducible exact ih0 _ _ _ _ _ _ _)
      | (with_reducible exact ih1 _)
      | (with_reducible exact coxswainlaw03_Of.mono _ _ _)
      | (with_reducible exact coxswainlaw03_awake.mono _)
      | (with_reducible exact coxswainref03_Bits.mono _ _)
      | (with_reducible exact coxswainref03_Bytes.mono _ _)
      | (with_reducible exact coxswainref03_Div.mono _ _ _)
      | (with_reducible exact coxswainref03_Text.mono _ _)
      | (with_reducible exact nat_Nat_Bytes.mono _ _)
      | (with_reducible exact nat_Nat_Cmp.mono _ _ _)
      | (with_reducible exact nat_Nat_Div.mono _ _ _)
      | (with_reducible exact nat_Nat_Text.mono _ _)
      | (with_reducible exact nat_Of.mono _ _)
      | (with_reducible exact LeO.refl _)
      | (with_reducible exact LeO.none _)
      | (with_reducible refine LeO.ite ?_ ?_)
      | (with_reducible refine LeO.bind ?_ (fun _ => ?_))
      | exact ih0 _ _ _ _ _ _ _
      | exact ih1 _
      | exact coxswainlaw03_Of.mono _ _ _
      | exact coxswainlaw03_awake.mono _
      | exact coxswainref03_Bits.mono _ _
      | exact coxswainref03_Bytes.mono _ _
      | exact coxswainref03_Div.mono _ _ _
      | exact coxswainref03_Text.mono _ _
      | exact nat_Nat_Bytes.mono _ _
      | exact nat_Nat_Cmp.mono _ _ _
      | exact nat_Nat_Div.mono _ _ _
      | exact nat_Nat_Text.mono _ _
      | exact nat_Of.mono _ _
      | exact LeO.none _
      | refine LeO.ite ?_ ?_
      | refine LeO.bind ?_ (fun _ => ?_)
    · intro y0
      unfold coxswainlaw03_NatOne.j1
      repeat' first
      | (with_reducible exact ih0 _ _ _ _ _ _ _)
      | (with_reducible exact ih1 _)
      | (with_reducible exact coxswainlaw03_Of.mono _ _ _)
      | (with_reducible exact coxswainlaw03_awake.mono _)
      | (with_reducible exact coxswainref03_Bits.mono _ _)
      | (with_reducible exact coxswainref03_Bytes.mono _ _)
      | (with_reducible exact coxswainref03_Div.mono _ _ _)
      | (with_reducible exact coxswainref03_Text.mono _ _)
      | (with_reducible exact nat_Nat_Bytes.mono _ _)
      | (with_reducible exact nat_Nat_Cmp.mono _ _ _)
      | (with_reducible exact nat_Nat_Div.mono _ _ _)
      | (with_reducible exact nat_Nat_Text.mono _ _)
      | (with_reducible exact nat_Of.mono _ _)
      | (with_reducible exact LeO.refl _)
      | (with_reducible exact LeO.none _)
      | (with_reducible refine LeO.ite ?_ ?_)
      | (with_reducible refine LeO.bind ?_ (fun _ => ?_))
      | exact ih0 _ _ _ _ _ _ _
      | exact ih1 _
      | exact coxswainlaw03_Of.mono _ _ _
      | exact coxswainlaw03_awake.mono _
      | exact coxswainref03_Bits.mono _ _
      | exact coxswainref03_Bytes.mono _ _
      | exact coxswainref03_Div.mono _ _ _
      | exact coxswainref03_Text.mono _ _
      | exact nat_Nat_Bytes.mono _ _
      | exact nat_Nat_Cmp.mono _ _ _
      | exact nat_Nat_Div.mono _ _ _
      | exact nat_Nat_Text.mono _ _
      | exact nat_Of.mono _ _
      | exact LeO.none _
      | refine LeO.ite ?_ ?_
      | refine LeO.bind ?_ (fun _ => ?_)
theorem coxswainlaw03_NatOne.mono : ∀ a0 a1 k, LeO (coxswainlaw03_NatOne.f k a0 a1) (coxswainlaw03_NatOne.f (k + 1) a0 a1) := by
  intro a0 a1 k
  obtain ⟨ih0, ih1⟩ := coxswainlaw03_NatOne.mono_l k
  unfold coxswainlaw03_NatOne.f
  repeat' first
      | (with_reducible exact ih0 _ _ _ _ _ _ _)
      | (with_reducible exact ih1 _)
      | (with_reducible exact coxswainlaw03_Of.mono _ _ _)
      | (with_reducible exact coxswainlaw03_awake.mono _)
      | (with_reducible exact coxswainref03_Bits.mono _ _)
      | (with_reducible exact coxswainref03_Bytes.mono _ _)
      | (with_reducible exact coxswainref03_Div.mono _ _ _)
      | (with_reducible exact coxswainref03_Text.mono _ _)
      | (with_reducible exact nat_Nat_Bytes.mono _ _)
      | (with_reducible exact nat_Nat_Cmp.mono _ _ _)
      | (with_reducible exact nat_Nat_Div.mono _ _ _)
      | (with_reducible exact nat_Nat_Text.mono _ _)
      | (with_reducible exact nat_Of.mono _ _)
      | (with_reducible exact LeO.refl _)
      | (with_reducible exact LeO.none _)
      | (with_reducible refine LeO.ite ?_ ?_)
      | (with_reducible refine LeO.bind ?_ (fun _ => ?_))
      | exact ih0 _ _ _ _ _ _ _
      | exact ih1 _
      | exact coxswainlaw03_Of.mono _ _ _
      | exact coxswainlaw03_awake.mono _
      | exact coxswainref03_Bits.mono _ _
      | exact coxswainref03_Bytes.mono _ _
      | exact coxswainref03_Div.mono _ _ _
      | exact coxswainref03_Text.mono _ _
      | exact nat_Nat_Bytes.mono _ _
      | exact nat_Nat_Cmp.mono _ _ _
      | exact nat_Nat_Div.mono _ _ _
      | exact nat_Nat_Text.mono _ _
      | exact nat_Of.mono _ _
      | exact LeO.none _
      | refine LeO.ite ?_ ?_
      | refine LeO.bind ?_ (fun _ => ?_)
def coxswainlaw03_NatOne.T12 : Bool × List (List Nat × List Nat) := (true, [([], []), ([], []), ([1], [1]), ([2], [2]), ([0, 3], [0, 3]), ([4, 2], [4]), ([5], [5]), ([6, 5, 5], [5, 6]), ([7], [7]), ([8, 7, 7], [7, 8]), ([7], [7]), ([9, 10, 9, 7], [7, 9, 10]), ([11, 7], [7, 11]), ([7, 12, 5], [5, 7, 12]), ([13, 11, 5], [5, 13]), ([14], [14]), ([15, 14], [14, 15]), ([16, 14, 14], [14, 16]), ([17], [17]), ([18, 17], [17, 18]), ([17, 19, 14], [14, 17, 19]), ([14, 20, 5], [5, 14, 20]), ([5, 21], [5, 21]), ([22, 17, 0, 1, 2, 3, 4, 5, 6, 7, 8, 9, 10, 11, 12, 13, 14, 15, 16, 17, 18, 19, 20, 21, 22], [22])])
def coxswainlaw03_NatOne.B12 : List Nat := [0, 0, 2, 6, 15, 31, 63, 127, 255, 511, 255, 2047, 4095, 8191, 16383, 32767, 65535, 131071, 262143, 524287, 1048575, 2097151, 4194303, 8388607]
theorem coxswainlaw03_NatOne.tab12 : rtab .any (opsOf Try.f12 12) = coxswainlaw03_NatOne.T12 := by kernel_rfl
theorem coxswainlaw03_NatOne.bits12 : waitsOk coxswainlaw03_NatOne.T12.2 coxswainlaw03_NatOne.B12 = true := by kernel_rfl
set_option maxHeartbeats 8000000 in
set_option maxRecDepth 100000 in
theorem coxswainlaw03_NatOne.calls (k : Nat) (a0 : ByteArray) (a1 : Int) (r : Bool) (w : World) (h : coxswainlaw03_NatOne.f k a0 a1 = some r) :
    Calls Try.prog 12 #[.string a0, .int .u32 a1] w fun e w' => e = .returned (.bool r) ∧ Below w.heap.size w w' := by
  have hu31 := Try.underlying31
  have HB := Aside0.mk (Below.refl w.heap.size w)
  have H : ((coxswainlaw03_awake.f k).bind fun t568 => (if t568 = true then ((coxswainlaw03_Of.f k a0 80).bind fun bt569 => ((nat_Nat_Div.f k bt569.1 a1).bind fun bt576 => (if (bt576.2.2 != (decide (a1 > 0))) = true then (coxswainlaw03_NatOne.j0 k a1 bt569.2 bt576.2.1 bt576.2.2 true bt569.1 bt576.1) else (if bt576.2.2 = true then ((nat_Nat_Bits.f bt569.1).bind fun t582 => ((coxswainref03_Bits.f k bt569.2).bind fun t583 => (if t582 = t583 then ((nat_Nat_Zero.f bt569.1).bind fun t584 => (if (t584 != ((bt569.2.length : Int) == 0)) = true then (coxswainlaw03_NatOne.j0 k a1 bt569.2 bt576.2.1 bt576.2.2 true bt569.1 bt576.1) else ((nat_Nat_Bytes.f k bt569.1).bind fun t585 => ((coxswainref03_Bytes.f k bt569.2).bind fun t586 => (if t585.toList = t586.toList then ((nat_Nat_Text.f k bt569.1).bind fun t587 => ((coxswainref03_Text.f k bt569.2).bind fun t588 => (coxswainlaw03_NatOne.j0 k a1 bt569.2 bt576.2.1 bt576.2.2 (t587.toList != t588.toList) bt569.1 bt576.1))) else (coxswainlaw03_NatOne.j0 k a1 bt569.2 bt576.2.1 bt576.2.2 true bt569.1 bt576.1)))))) else (coxswainlaw03_NatOne.j0 k a1 bt569.2 bt576.2.1 bt576.2.2 true bt569.1 bt576.1)))) else ((nat_Nat_Zero.f bt576.1).bind fun t589 => (if t589 = true then (if bt576.2.1 = 0 then ((nat_Nat_Bits.f bt569.1).bind fun t590 => ((coxswainref03_Bits.f k bt569.2).bind fun t591 => (if t590 = t591 then ((nat_Nat_Zero.f bt569.1).bind fun t592 => (if (t592 != ((bt569.2.length : Int) == 0)) = true then (coxswainlaw03_NatOne.j0 k a1 bt569.2 bt576.2.1 bt576.2.2 true bt569.1 bt576.1) else ((nat_Nat_Bytes.f k bt569.1).bind fun t593 => ((coxswainref03_Bytes.f k bt569.2).bind fun t594 => (if t593.toList = t594.toList then ((nat_Nat_Text.f k bt569.1).bind fun t595 => ((coxswainref03_Text.f k bt569.2).bind fun t596 => (coxswainlaw03_NatOne.j0 k a1 bt569.2 bt576.2.1 bt576.2.2 (t595.toList != t596.toList) bt569.1 bt576.1))) else (coxswainlaw03_NatOne.j0 k a1 bt569.2 bt576.2.1 bt576.2.2 true bt569.1 bt576.1)))))) else (coxswainlaw03_NatOne.j0 k a1 bt569.2 bt576.2.1 bt576.2.2 true bt569.1 bt576.1)))) else (coxswainlaw03_NatOne.j0 k a1 bt569.2 bt576.2.1 bt576.2.2 true bt569.1 bt576.1)) else (coxswainlaw03_NatOne.j0 k a1 bt569.2 bt576.2.1 bt576.2.2 true bt569.1 bt576.1))))))) else (some false))) = some r := h
  clear h
  replace H := Option.bind_eq_some_iff.mp H
  obtain ⟨t568, A30, H⟩ := H
  replace H : (if t568 = true then ((coxswainlaw03_Of.f k a0 80).bind fun bt569 => ((nat_Nat_Div.f k bt569.1 a1).bind fun bt576 => (if (bt576.2.2 != (decide (a1 > 0))) = true then (coxswainlaw03_NatOne.j0 k a1 bt569.2 bt576.2.1 bt576.2.2 true bt569.1 bt576.1) else (if bt576.2.2 = true then ((nat_Nat_Bits.f bt569.1).bind fun t582 => ((coxswainref03_Bits.f k bt569.2).bind fun t583 => (if t582 = t583 then ((nat_Nat_Zero.f bt569.1).bind fun t584 => (if (t584 != ((bt569.2.length : Int) == 0)) = true then (coxswainlaw03_NatOne.j0 k a1 bt569.2 bt576.2.1 bt576.2.2 true bt569.1 bt576.1) else ((nat_Nat_Bytes.f k bt569.1).bind fun t585 => ((coxswainref03_Bytes.f k bt569.2).bind fun t586 => (if t585.toList = t586.toList then ((nat_Nat_Text.f k bt569.1).bind fun t587 => ((coxswainref03_Text.f k bt569.2).bind fun t588 => (coxswainlaw03_NatOne.j0 k a1 bt569.2 bt576.2.1 bt576.2.2 (t587.toList != t588.toList) bt569.1 bt576.1))) else (coxswainlaw03_NatOne.j0 k a1 bt569.2 bt576.2.1 bt576.2.2 true bt569.1 bt576.1)))))) else (coxswainlaw03_NatOne.j0 k a1 bt569.2 bt576.2.1 bt576.2.2 true bt569.1 bt576.1)))) else ((nat_Nat_Zero.f bt576.1).bind fun t589 => (if t589 = true then (if bt576.2.1 = 0 then ((nat_Nat_Bits.f bt569.1).bind fun t590 => ((coxswainref03_Bits.f k bt569.2).bind fun t591 => (if t590 = t591 then ((nat_Nat_Zero.f bt569.1).bind fun t592 => (if (t592 != ((bt569.2.length : Int) == 0)) = true then (coxswainlaw03_NatOne.j0 k a1 bt569.2 bt576.2.1 bt576.2.2 true bt569.1 bt576.1) else ((nat_Nat_Bytes.f k bt569.1).bind fun t593 => ((coxswainref03_Bytes.f k bt569.2).bind fun t594 => (if t593.toList = t594.toList then ((nat_Nat_Text.f k bt569.1).bind fun t595 => ((coxswainref03_Text.f k bt569.2).bind fun t596 => (coxswainlaw03_NatOne.j0 k a1 bt569.2 bt576.2.1 bt576.2.2 (t595.toList != t596.toList) bt569.1 bt576.1))) else (coxswainlaw03_NatOne.j0 k a1 bt569.2 bt576.2.1 bt576.2.2 true bt569.1 bt576.1)))))) else (coxswainlaw03_NatOne.j0 k a1 bt569.2 bt576.2.1 bt576.2.2 true bt569.1 bt576.1)))) else (coxswainlaw03_NatOne.j0 k a1 bt569.2 bt576.2.1 bt576.2.2 true bt569.1 bt576.1)) else (coxswainlaw03_NatOne.j0 k a1 bt569.2 bt576.2.1 bt576.2.2 true bt569.1 bt576.1))))))) else (some false)) = some r := H
  have A3 := Aside0.mk A30
  clear A30
  by_cases c4 : t568 = true
  · subst c4
    have H1 : ((coxswainlaw03_Of.f k a0 80).bind fun bt569 => ((nat_Nat_Div.f k bt569.1 a1).bind fun bt576 => (if (bt576.2.2 != (decide (a1 > 0))) = true then (coxswainlaw03_NatOne.j0 k a1 bt569.2 bt576.2.1 bt576.2.2 true bt569.1 bt576.1) else (if bt576.2.2 = true then ((nat_Nat_Bits.f bt569.1).bind fun t582 => ((coxswainref03_Bits.f k bt569.2).bind fun t583 => (if t582 = t583 then ((nat_Nat_Zero.f bt569.1).bind fun t584 => (if (t584 != ((bt569.2.length : Int) == 0)) = true then (coxswainlaw03_NatOne.j0 k a1 bt569.2 bt576.2.1 bt576.2.2 true bt569.1 bt576.1) else ((nat_Nat_Bytes.f k bt569.1).bind fun t585 => ((coxswainref03_Bytes.f k bt569.2).bind fun t586 => (if t585.toList = t586.toList then ((nat_Nat_Text.f k bt569.1).bind fun t587 => ((coxswainref03_Text.f k bt569.2).bind fun t588 => (coxswainlaw03_NatOne.j0 k a1 bt569.2 bt576.2.1 bt576.2.2 (t587.toList != t588.toList) bt569.1 bt576.1))) else (coxswainlaw03_NatOne.j0 k a1 bt569.2 bt576.2.1 bt576.2.2 true bt569.1 bt576.1)))))) else (coxswainlaw03_NatOne.j0 k a1 bt569.2 bt576.2.1 bt576.2.2 true bt569.1 bt576.1)))) else ((nat_Nat_Zero.f bt576.1).bind fun t589 => (if t589 = true then (if bt576.2.1 = 0 then ((nat_Nat_Bits.f bt569.1).bind fun t590 => ((coxswainref03_Bits.f k bt569.2).bind fun t591 => (if t590 = t591 then ((nat_Nat_Zero.f bt569.1).bind fun t592 => (if (t592 != ((bt569.2.length : Int) == 0)) = true then (coxswainlaw03_NatOne.j0 k a1 bt569.2 bt576.2.1 bt576.2.2 true bt569.1 bt576.1) else ((nat_Nat_Bytes.f k bt569.1).bind fun t593 => ((coxswainref03_Bytes.f k bt569.2).bind fun t594 => (if t593.toList = t594.toList then ((nat_Nat_Text.f k bt569.1).bind fun t595 => ((coxswainref03_Text.f k bt569.2).bind fun t596 => (coxswainlaw03_NatOne.j0 k a1 bt569.2 bt576.2.1 bt576.2.2 (t595.toList != t596.toList) bt569.1 bt576.1))) else (coxswainlaw03_NatOne.j0 k a1 bt569.2 bt576.2.1 bt576.2.2 true bt569.1 bt576.1)))))) else (coxswainlaw03_NatOne.j0 k a1 bt569.2 bt576.2.1 bt576.2.2 true bt569.1 bt576.1)))) else (coxswainlaw03_NatOne.j0 k a1 bt569.2 bt576.2.1 bt576.2.2 true bt569.1 bt576.1)) else (coxswainlaw03_NatOne.j0 k a1 bt569.2 bt576.2.1 bt576.2.2 true bt569.1 bt576.1))))))) = some r := by rw [if_pos rfl] at H; exact H
    clear H
    have H := H1
    clear H1
    replace H := Option.bind_eq_some_iff.mp H
    obtain ⟨⟨t569, t572⟩, A50, H⟩ := H
    replace H : ((nat_Nat_Div.f k t569 a1).bind fun bt576 => (if (bt576.2.2 != (decide (a1 > 0))) = true then (coxswainlaw03_NatOne.j0 k a1 t572 bt576.2.1 bt576.2.2 true t569 bt576.1) else (if bt576.2.2 = true then ((nat_Nat_Bits.f t569).bind fun t582 => ((coxswainref03_Bits.f k t572).bind fun t583 => (if t582 = t583 then ((nat_Nat_Zero.f t569).bind fun t584 => (if (t584 != ((t572.length : Int) == 0)) = true then (coxswainlaw03_NatOne.j0 k a1 t572 bt576.2.1 bt576.2.2 true t569 bt576.1) else ((nat_Nat_Bytes.f k t569).bind fun t585 => ((coxswainref03_Bytes.f k t572).bind fun t586 => (if t585.toList = t586.toList then ((nat_Nat_Text.f k t569).bind fun t587 => ((coxswainref03_Text.f k t572).bind fun t588 => (coxswainlaw03_NatOne.j0 k a1 t572 bt576.2.1 bt576.2.2 (t587.toList != t588.toList) t569 bt576.1))) else (coxswainlaw03_NatOne.j0 k a1 t572 bt576.2.1 bt576.2.2 true t569 bt576.1)))))) else (coxswainlaw03_NatOne.j0 k a1 t572 bt576.2.1 bt576.2.2 true t569 bt576.1)))) else ((nat_Nat_Zero.f bt576.1).bind fun t589 => (if t589 = true then (if bt576.2.1 = 0 then ((nat_Nat_Bits.f t569).bind fun t590 => ((coxswainref03_Bits.f k t572).bind fun t591 => (if t590 = t591 then ((nat_Nat_Zero.f t569).bind fun t592 => (if (t592 != ((t572.length : Int) == 0)) = true then (coxswainlaw03_NatOne.j0 k a1 t572 bt576.2.1 bt576.2.2 true t569 bt576.1) else ((nat_Nat_Bytes.f k t569).bind fun t593 => ((coxswainref03_Bytes.f k t572).bind fun t594 => (if t593.toList = t594.toList then ((nat_Nat_Text.f k t569).bind fun t595 => ((coxswainref03_Text.f k t572).bind fun t596 => (coxswainlaw03_NatOne.j0 k a1 t572 bt576.2.1 bt576.2.2 (t595.toList != t596.toList) t569 bt576.1))) else (coxswainlaw03_NatOne.j0 k a1 t572 bt576.2.1 bt576.2.2 true t569 bt576.1)))))) else (coxswainlaw03_NatOne.j0 k a1 t572 bt576.2.1 bt576.2.2 true t569 bt576.1)))) else (coxswainlaw03_NatOne.j0 k a1 t572 bt576.2.1 bt576.2.2 true t569 bt576.1)) else (coxswainlaw03_NatOne.j0 k a1 t572 bt576.2.1 bt576.2.2 true t569 bt576.1)))))) = some r := H
    have A5 := Aside0.mk A50
    clear A50
    replace H := Option.bind_eq_some_iff.mp H
    obtain ⟨⟨t576, t579, t580⟩, A60, H⟩ := H
    replace H : (if (t580 != (decide (a1 > 0))) = true then (coxswainlaw03_NatOne.j0 k a1 t572 t579 t580 true t569 t576) else (if t580 = true then ((nat_Nat_Bits.f t569).bind fun t582 => ((coxswainref03_Bits.f k t572).bind fun t583 => (if t582 = t583 then ((nat_Nat_Zero.f t569).bind fun t584 => (if (t584 != ((t572.length : Int) == 0)) = true then (coxswainlaw03_NatOne.j0 k a1 t572 t579 t580 true t569 t576) else ((nat_Nat_Bytes.f k t569).bind fun t585 => ((coxswainref03_Bytes.f k t572).bind fun t586 => (if t585.toList = t586.toList then ((nat_Nat_Text.f k t569).bind fun t587 => ((coxswainref03_Text.f k t572).bind fun t588 => (coxswainlaw03_NatOne.j0 k a1 t572 t579 t580 (t587.toList != t588.toList) t569 t576))) else (coxswainlaw03_NatOne.j0 k a1 t572 t579 t580 true t569 t576)))))) else (coxswainlaw03_NatOne.j0 k a1 t572 t579 t580 true t569 t576)))) else ((nat_Nat_Zero.f t576).bind fun t589 => (if t589 = true then (if t579 = 0 then ((nat_Nat_Bits.f t569).bind fun t590 => ((coxswainref03_Bits.f k t572).bind fun t591 => (if t590 = t591 then ((nat_Nat_Zero.f t569).bind fun t592 => (if (t592 != ((t572.length : Int) == 0)) = true then (coxswainlaw03_NatOne.j0 k a1 t572 t579 t580 true t569 t576) else ((nat_Nat_Bytes.f k t569).bind fun t593 => ((coxswainref03_Bytes.f k t572).bind fun t594 => (if t593.toList = t594.toList then ((nat_Nat_Text.f k t569).bind fun t595 => ((coxswainref03_Text.f k t572).bind fun t596 => (coxswainlaw03_NatOne.j0 k a1 t572 t579 t580 (t595.toList != t596.toList) t569 t576))) else (coxswainlaw03_NatOne.j0 k a1 t572 t579 t580 true t569 t576)))))) else (coxswainlaw03_NatOne.j0 k a1 t572 t579 t580 true t569 t576)))) else (coxswainlaw03_NatOne.j0 k a1 t572 t579 t580 true t569 t576)) else (coxswainlaw03_NatOne.j0 k a1 t572 t579 t580 true t569 t576))))) = some r := H
    have A6 := Aside0.mk A60
    clear A60
    have HC7 := Aside0.mk H
    clear H
    go_enter Try.func12, Try.ntmps12
    go_upto_region 5 with (first | ((with_reducible refine gate_callee (f := 19) rfl ?_); refine goesL_ (some 14) rfl rfl Try.func19 (by kernel_rfl) rfl #[] rfl (by (try simp only [List.map_toArray, List.map_cons, List.map_nil]); first | done | rfl | (simp only [List.length_drop, List.length_take]; rfl)) ?_; (with_reducible refine (coxswainlaw03_awake.calls k  true _ A3.out).mono ?_); rintro e w8 ⟨rfl, hb⟩; refine ⟨_, rfl, ?_⟩; have n0_ := Aside0.mk (below_step (by repeat (first | (with_reducible first | exact HB.out | apply below_alloc | apply pw_below_drewN | apply below_drew1) | exact HB.out)) hb); clear HB; have HB := n0_; clear n0_; (try clear hb); (try clear hb2); (try clear hk); (try clear hi)) | ((with_reducible refine gate_callee (f := 20) rfl ?_); refine goesL_ (some 18) rfl rfl Try.func20 (by kernel_rfl) rfl #[.string a0, .int .i64 80] rfl (by (try simp only [List.map_toArray, List.map_cons, List.map_nil]); first | done | rfl | (simp only [List.length_drop, List.length_take]; rfl)) ?_; (with_reducible refine (coxswainlaw03_Of.calls k a0 80 t569 t572 _ A5.out).mono ?_); rintro e w9 ⟨v570, v573, rfl, ho0, ho1, hb⟩; refine ⟨_, rfl, ?_⟩; have n0_ := Aside0.mk (Kd.V_lower (Kd.V_mono (ok' := fun k_ => True) ho0 (fun k_ hk_ => trivial)) (below_size (by repeat (first | (with_reducible first | exact HB.out | apply below_alloc | apply pw_below_drewN | apply below_drew1) | exact HB.out)))); have n1_ := Aside0.mk (Kd.V_lower (Kd.V_mono (ok' := fun k_ => True) ho1 (fun k_ hk_ => trivial)) (below_size (by repeat (first | (with_reducible first | exact HB.out | apply below_alloc | apply pw_below_drewN | apply below_drew1) | exact HB.out)))); have n2_ := Aside0.mk (below_step (by repeat (first | (with_reducible first | exact HB.out | apply below_alloc | apply pw_below_drewN | apply below_drew1) | exact HB.out)) hb); clear HB; have HO571 := n0_; have HO574 := n1_; have HB := n2_; clear n0_ n1_ n2_; (try clear hb); (try clear hb2); (try clear hk); (try clear hi); (try clear ho0); (try clear ho1)) | ((with_reducible refine gate_dst (N := 5) rfl ?_); (try (refine gate_guard (by rfl) ?_; dsimp only)); refine box_event ?hg (N := 5) ?hd (cs := #[.slice none 0 0]) (t := 31) ?hr ?_; (case hd => rfl); (case hg => rfl); (case hr => first | (go_simp; done) | (go_simp; rfl)); intro gb575 hg w10 hbox hb; have n0_ := Aside0.mk (Kd.V_below (Kd.V_elderB (by (with_reducible repeat (first | apply Kd.V_alloc | apply Kd.V_drewN | apply Kd.V_drew)); exact HO571.out) gb575 (Nat.le_of_eq hg.symm)) hb); have n1_ := Aside0.mk (Kd.V_below (Kd.V_elderB (by (with_reducible repeat (first | apply Kd.V_alloc | apply Kd.V_drewN | apply Kd.V_drew)); exact HO574.out) gb575 (Nat.le_of_eq hg.symm)) hb); have n2_ := Aside0.mk (below_step (by repeat (first | (with_reducible first | exact HB.out | apply below_alloc | apply pw_below_drewN | apply below_drew1) | exact HB.out)) hb); have n3_ := Aside0.mk (hbox); have n4_ := Aside0.mk ((by rw [hg]; exact (below_size (by repeat (first | (with_reducible first | exact HB.out | apply below_alloc | apply pw_below_drewN | apply below_drew1) | exact HB.out))) : w.heap.size ≤ gb575)); have n5_ := Aside0.mk ((by rw [hg]; exact (below_size (by repeat (first | (with_reducible first | exact HB.out | apply below_alloc | apply pw_below_drewN | apply below_drew1) | exact HB.out))) : w.heap.size ≤ gb575)); clear HO571; clear HO574; clear HB; have HO571 := n0_; have HO574 := n1_; have HB := n2_; have BK575 := n3_; have GW575 := n4_; have GE575 := n5_; clear n0_ n1_ n2_ n3_ n4_ n5_; clear hb hbox hg; obtain ⟨Ao11, co11, eo11⟩ := Kd.V_slice HO571.out; subst eo11; have hcz12_0 : w10.cell? ⟨gb575, 0, none⟩ = some (.slice none 0 0) := (blk_cell BK575.out 0).trans rfl; have hfz12_0 := blk_frozen BK575.out 0) | ((with_reducible refine gate_callee (f := 31) rfl ?_); refine goesL_ (some 24) rfl rfl Try.func31 (by kernel_rfl) rfl #[.agg #[.slice Ao11 t569.length co11], .int .u32 a1] rfl (by (try simp only [List.map_toArray, List.map_cons, List.map_nil]); first | done | rfl | (simp only [List.length_drop, List.length_take]; rfl)) ?_; (with_reducible refine (nat_Nat_Div.calls k _ _ t569 a1 t576 t579 t580 _ ?side1 ?side2 A6.out).mono ?_); (case side1 => refine (Kd.V_reads' (e := 27) (base := w.heap.size) (ok := fun k_ => (True ∧ k_ ≠ gb575)) (n := t569.length) (c := co11) ?_).2.2; exact (by (with_reducible repeat (first | apply Kd.V_alloc | apply Kd.V_drewN | apply Kd.V_drew)); exact (Kd.V_mono (Kd.V_far (p := ⟨gb575, 0, none⟩) (Kd.V_mono HO571.out (fun k_ hk => (⟨hk, hk.2⟩ : _ ∧ k_ ≠ gb575))) (fun _ hk => hk.2) (.slice Ao11 t569.length co11)) (fun _ h_ => h_.1)))); (case side2 => exact (Kd.V_reads' HO571.out).2.1); rintro e w13 ⟨v577, rfl, ho0, hb⟩; refine ⟨_, rfl, ?_⟩; have n0_ := Aside0.mk (Kd.V_below (by (with_reducible repeat (first | apply Kd.V_alloc | apply Kd.V_drewN | apply Kd.V_drew)); exact (Kd.V_mono (Kd.V_far (p := ⟨gb575, 0, none⟩) (Kd.V_mono HO571.out (fun k_ hk => (⟨hk, hk.2⟩ : _ ∧ k_ ≠ gb575))) (fun _ hk => hk.2) (.slice Ao11 t569.length co11)) (fun _ h_ => h_.1))) hb); have n1_ := Aside0.mk (Kd.V_below (by (with_reducible repeat (first | apply Kd.V_alloc | apply Kd.V_drewN | apply Kd.V_drew)); exact (Kd.V_mono (Kd.V_far (p := ⟨gb575, 0, none⟩) (Kd.V_mono HO574.out (fun k_ hk => (⟨hk, hk.2⟩ : _ ∧ k_ ≠ gb575))) (fun _ hk => hk.2) (.slice Ao11 t569.length co11)) (fun _ h_ => h_.1))) hb); have n2_ := Aside0.mk (Kd.V_lower (Kd.V_mono (ok' := fun k_ => k_ ≠ gb575) ho0 (fun k_ hk_ => (Kd.freshB (g := gb575) (o := .cells #[.slice Ao11 t569.length co11] 31 (0, 0)) (by (with_reducible repeat (first | refine blk_drewN ?_ _ | refine blk_drew ?_ | refine blk_alloc ?_ _)); refine blk_put (cs := #[.slice none 0 0]) ?_ 0 _ rfl; (with_reducible repeat (first | refine blk_drewN ?_ _ | refine blk_drew ?_ | refine blk_alloc ?_ _)); exact BK575.out) k_ hk_))) (below_size (by repeat (first | (with_reducible first | exact HB.out | apply below_alloc | apply pw_below_drewN | apply below_drew1 | refine below_set ?_ GE575.out) | exact HB.out)))); have n3_ := Aside0.mk (blk_below (g := gb575) (o := .cells #[.slice Ao11 t569.length co11] 31 (0, 0)) (by (with_reducible repeat (first | refine blk_drewN ?_ _ | refine blk_drew ?_ | refine blk_alloc ?_ _)); refine blk_put (cs := #[.slice none 0 0]) ?_ 0 _ rfl; (with_reducible repeat (first | refine blk_drewN ?_ _ | refine blk_drew ?_ | refine blk_alloc ?_ _)); exact BK575.out) hb); have n4_ := Aside0.mk (below_step (by repeat (first | (with_reducible first | exact HB.out | apply below_alloc | apply pw_below_drewN | apply below_drew1 | refine below_set ?_ GE575.out) | exact HB.out)) hb); clear HO571; clear HO574; clear BK575; clear HB; have HO571 := n0_; have HO574 := n1_; have HO578 := n2_; have BK575 := n3_; have HB := n4_; clear n0_ n1_ n2_ n3_ n4_; (try clear hb); (try clear hb2); (try clear hk); (try clear hi); (try clear ho0)) | ((with_reducible refine gate_dst (N := 7) rfl ?_); (try (refine gate_guard (by rfl) ?_; dsimp only)); refine box_event ?hg (N := 7) ?hd (cs := #[.slice none 0 0]) (t := 31) ?hr ?_; (case hd => rfl); (case hg => rfl); (case hr => first | (go_simp; done) | (go_simp; rfl)); intro gb581 hg w14 hbox hb; have n0_ := Aside0.mk (Kd.V_below (Kd.V_elderB (by (with_reducible repeat (first | apply Kd.V_alloc | apply Kd.V_drewN | apply Kd.V_drew)); exact HO571.out) gb581 (Nat.le_of_eq hg.symm)) hb); have n1_ := Aside0.mk (Kd.V_below (Kd.V_elderB (by (with_reducible repeat (first | apply Kd.V_alloc | apply Kd.V_drewN | apply Kd.V_drew)); exact HO574.out) gb581 (Nat.le_of_eq hg.symm)) hb); have n2_ := Aside0.mk (Kd.V_below (Kd.V_elderB (by (with_reducible repeat (first | apply Kd.V_alloc | apply Kd.V_drewN | apply Kd.V_drew)); exact HO578.out) gb581 (Nat.le_of_eq hg.symm)) hb); have n3_ := Aside0.mk (blk_below (g := gb575) (o := .cells #[.slice Ao11 t569.length co11] 31 (0, 0)) (by (with_reducible repeat (first | refine blk_drewN ?_ _ | refine blk_drew ?_ | refine blk_alloc ?_ _)); exact BK575.out) hb); have n4_ := Aside0.mk (below_step (by repeat (first | (with_reducible first | exact HB.out | apply below_alloc | apply pw_below_drewN | apply below_drew1 | refine below_set ?_ GE575.out) | exact HB.out)) hb); have n5_ := Aside0.mk (hbox); have n6_ := Aside0.mk ((by rw [hg]; exact (below_size (by repeat (first | (with_reducible first | exact HB.out | apply below_alloc | apply pw_below_drewN | apply below_drew1 | refine below_set ?_ GE575.out) | exact HB.out))) : w.heap.size ≤ gb581)); have n7_ := Aside0.mk ((by rw [hg]; exact (below_size (by repeat (first | (with_reducible first | exact HB.out | apply below_alloc | apply pw_below_drewN | apply below_drew1 | refine below_set ?_ GE575.out) | exact HB.out))) : w.heap.size ≤ gb581)); have n8_ := Aside0.mk ((by rw [hg]; exact Nat.ne_of_lt (blk_lt (g := gb575) (o := .cells #[.slice Ao11 t569.length co11] 31 (0, 0)) (by (with_reducible repeat (first | refine blk_drewN ?_ _ | refine blk_drew ?_ | refine blk_alloc ?_ _)); exact BK575.out)) : gb575 ≠ gb581)); have n9_ := Aside0.mk ((by rw [hg]; exact Nat.ne_of_gt (blk_lt (g := gb575) (o := .cells #[.slice Ao11 t569.length co11] 31 (0, 0)) (by (with_reducible repeat (first | refine blk_drewN ?_ _ | refine blk_drew ?_ | refine blk_alloc ?_ _)); exact BK575.out)) : gb581 ≠ gb575)); clear HO571; clear HO574; clear HO578; clear BK575; clear HB; have HO571 := n0_; have HO574 := n1_; have HO578 := n2_; have BK575 := n3_; have HB := n4_; have BK581 := n5_; have GW581 := n6_; have GE581 := n7_; have NB575_581 := n8_; have NB581_575 := n9_; clear n0_ n1_ n2_ n3_ n4_ n5_ n6_ n7_ n8_ n9_; clear hb hbox hg; obtain ⟨Ao15, co15, eo15⟩ := Kd.V_slice HO578.out; subst eo15; have hnb16 := NB581_575.out; have hnc16 := NB575_581.out; have hcz17_0 : w14.cell? ⟨gb581, 0, none⟩ = some (.slice none 0 0) := (blk_cell BK581.out 0).trans rfl; have hfz17_0 := blk_frozen BK581.out 0))
    (try simp only [Act.put, List.setIfInBounds_toArray, List.set_cons_zero, List.set_cons_succ])
    go_cut [73] (fun v73 wc => ∃ (kq : Nat) (x73_6 : Bool), v73 = .bool x73_6 ∧ Aside0 (coxswainlaw03_NatOne.j0 kq a1 t572 t579 t580 x73_6 t569 t576 = some r) ∧ Aside0 (kq ≤ k) ∧ Aside0 (Kd.V (Kd.int .i64) 3 wc w.heap.size (fun k_ => k_ ≠ gb575 ∧ k_ ≠ gb581) v573 t572) ∧ Aside0 (Kd.V (Kd.int .u32) 27 wc w.heap.size (fun k_ => k_ ≠ gb575 ∧ k_ ≠ gb581) (.slice Ao11 t569.length co11) t569) ∧ Aside0 (Kd.V (Kd.int .u32) 27 wc w.heap.size (fun k_ => k_ ≠ gb575 ∧ k_ ≠ gb581) (.slice Ao15 t576.length co15) t576) ∧ Aside0 (wc.heap[gb575]? = some (.cells #[(.slice Ao11 t569.length co11)] 31 (0, 0))) ∧ Aside0 (wc.heap[gb581]? = some (.cells #[(.slice Ao15 t576.length co15)] 31 (0, 0))) ∧ Aside0 (Below w.heap.size w wc))
    case first =>
      have H := HC7.out
      clear HC7
      by_cases c18 : (t580 != (decide (a1 > 0))) = true
      · rw [if_pos c18] at H
        have c18b0 : (t580 != (decide (a1 > 0))) = true := c18
        (try (have c18b1 : decide (t580 = (decide (a1 > 0))) = false := by simpa using c18))
        (try (have c18b2 : (t580 == (decide (a1 > 0))) = false := by simpa using c18))
        (try (have c18b3 : ¬ (t580 = (decide (a1 > 0))) := by simpa using c18))
        clear c18
        (first | rw [c18b0] | (simp only [i64_w, i32_w]; rw [c18b0]) | skip)
        have H' := Aside0.mk H
        clear H
        go_wp2
        go_meet
        case rel => exact ⟨_, (true), (by first | rfl | (simp; done) | (simp [*]; done)), H', ⟨by first | omega | exact Nat.le_refl _⟩, ⟨by (with_reducible repeat (first | apply Kd.V_alloc | apply Kd.V_drewN | apply Kd.V_drew)); exact Kd.V_mono (Kd.V_far (p := ⟨gb581, 0, none⟩) (Kd.V_mono HO574.out (fun k_ hk => (⟨hk, hk.2⟩ : _ ∧ k_ ≠ gb581))) (fun _ hk => hk.2) (.slice Ao15 t576.length co15)) (fun _ hk => ⟨hk.1.1.2, hk.1.2⟩)⟩, ⟨by (with_reducible repeat (first | apply Kd.V_alloc | apply Kd.V_drewN | apply Kd.V_drew)); exact Kd.V_mono (Kd.V_far (p := ⟨gb581, 0, none⟩) (Kd.V_mono HO571.out (fun k_ hk => (⟨hk, hk.2⟩ : _ ∧ k_ ≠ gb581))) (fun _ hk => hk.2) (.slice Ao15 t576.length co15)) (fun _ hk => ⟨hk.1.1.2, hk.1.2⟩)⟩, ⟨by (with_reducible repeat (first | apply Kd.V_alloc | apply Kd.V_drewN | apply Kd.V_drew)); exact Kd.V_mono (Kd.V_far (p := ⟨gb581, 0, none⟩) (Kd.V_mono HO578.out (fun k_ hk => (⟨hk, hk.2⟩ : _ ∧ k_ ≠ gb581))) (fun _ hk => hk.2) (.slice Ao15 t576.length co15)) (fun _ hk => ⟨hk.1.1, hk.1.2⟩)⟩, ⟨by (with_reducible repeat (first | refine blk_drewN ?_ _ | refine blk_drew ?_ | refine blk_alloc ?_ _)); refine blk_far ?_ NB575_581.out _; (with_reducible repeat (first | refine blk_drewN ?_ _ | refine blk_drew ?_ | refine blk_alloc ?_ _)); exact BK575.out⟩, ⟨by (with_reducible repeat (first | refine blk_drewN ?_ _ | refine blk_drew ?_ | refine blk_alloc ?_ _)); refine blk_put (cs := #[.slice none 0 0]) ?_ 0 _ rfl; (with_reducible repeat (first | refine blk_drewN ?_ _ | refine blk_drew ?_ | refine blk_alloc ?_ _)); exact BK581.out⟩, ⟨by repeat (first | (with_reducible first | exact HB.out | apply below_alloc | apply pw_below_drewN | apply below_drew1 | refine below_set ?_ GE575.out | refine below_set ?_ GE581.out) | exact HB.out)⟩⟩
      · rw [if_neg c18] at H
        have c18b0 : (t580 != (decide (a1 > 0))) = false := by simpa using c18
        (try (have c18b1 : decide (t580 = (decide (a1 > 0))) = true := by simpa using c18))
        (try (have c18b2 : (t580 == (decide (a1 > 0))) = true := by simpa using c18))
        clear c18
        (first | rw [c18b0] | (simp only [i64_w, i32_w]; rw [c18b0]) | skip)
        by_cases c19 : t580 = true
        · subst c19
          have H1 : ((nat_Nat_Bits.f t569).bind fun t582 => ((coxswainref03_Bits.f k t572).bind fun t583 => (if t582 = t583 then ((nat_Nat_Zero.f t569).bind fun t584 => (if (t584 != ((t572.length : Int) == 0)) = true then (coxswainlaw03_NatOne.j0 k a1 t572 t579 true true t569 t576) else ((nat_Nat_Bytes.f k t569).bind fun t585 => ((coxswainref03_Bytes.f k t572).bind fun t586 => (if t585.toList = t586.toList then ((nat_Nat_Text.f k t569).bind fun t587 => ((coxswainref03_Text.f k t572).bind fun t588 => (coxswainlaw03_NatOne.j0 k a1 t572 t579 true (t587.toList != t588.toList) t569 t576))) else (coxswainlaw03_NatOne.j0 k a1 t572 t579 true true t569 t576)))))) else (coxswainlaw03_NatOne.j0 k a1 t572 t579 true true t569 t576)))) = some r := by rw [if_pos rfl] at H; exact H
          clear H
          have H := H1
          clear H1
          replace H := Option.bind_eq_some_iff.mp H
          obtain ⟨t582, A200, H⟩ := H
          replace H : ((coxswainref03_Bits.f k t572).bind fun t583 => (if t582 = t583 then ((nat_Nat_Zero.f t569).bind fun t584 => (if (t584 != ((t572.length : Int) == 0)) = true then (coxswainlaw03_NatOne.j0 k a1 t572 t579 true true t569 t576) else ((nat_Nat_Bytes.f k t569).bind fun t585 => ((coxswainref03_Bytes.f k t572).bind fun t586 => (if t585.toList = t586.toList then ((nat_Nat_Text.f k t569).bind fun t587 => ((coxswainref03_Text.f k t572).bind fun t588 => (coxswainlaw03_NatOne.j0 k a1 t572 t579 true (t587.toList != t588.toList) t569 t576))) else (coxswainlaw03_NatOne.j0 k a1 t572 t579 true true t569 t576)))))) else (coxswainlaw03_NatOne.j0 k a1 t572 t579 true true t569 t576))) = some r := H
          have A20 := Aside0.mk A200
          clear A200
          replace H := Option.bind_eq_some_iff.mp H
          obtain ⟨t583, A210, H⟩ := H
          replace H : (if t582 = t583 then ((nat_Nat_Zero.f t569).bind fun t584 => (if (t584 != ((t572.length : Int) == 0)) = true then (coxswainlaw03_NatOne.j0 k a1 t572 t579 true true t569 t576) else ((nat_Nat_Bytes.f k t569).bind fun t585 => ((coxswainref03_Bytes.f k t572).bind fun t586 => (if t585.toList = t586.toList then ((nat_Nat_Text.f k t569).bind fun t587 => ((coxswainref03_Text.f k t572).bind fun t588 => (coxswainlaw03_NatOne.j0 k a1 t572 t579 true (t587.toList != t588.toList) t569 t576))) else (coxswainlaw03_NatOne.j0 k a1 t572 t579 true true t569 t576)))))) else (coxswainlaw03_NatOne.j0 k a1 t572 t579 true true t569 t576)) = some r := H
          have A21 := Aside0.mk A210
          clear A210
          by_cases c22 : t582 = t583
          · rw [if_pos c22] at H
            have c22b0 : (t582 == t583) = true := beq_iff_eq.mpr c22
            have c22b1 : (t582 != t583) = false := bne_eq_false_iff_eq.mpr c22
            clear c22
            replace H := Option.bind_eq_some_iff.mp H
            obtain ⟨t584, A230, H⟩ := H
            replace H : (if (t584 != ((t572.length : Int) == 0)) = true then (coxswainlaw03_NatOne.j0 k a1 t572 t579 true true t569 t576) else ((nat_Nat_Bytes.f k t569).bind fun t585 => ((coxswainref03_Bytes.f k t572).bind fun t586 => (if t585.toList = t586.toList then ((nat_Nat_Text.f k t569).bind fun t587 => ((coxswainref03_Text.f k t572).bind fun t588 => (coxswainlaw03_NatOne.j0 k a1 t572 t579 true (t587.toList != t588.toList) t569 t576))) else (coxswainlaw03_NatOne.j0 k a1 t572 t579 true true t569 t576))))) = some r := H
            have A23 := Aside0.mk A230
            clear A230
            by_cases c24 : (t584 != ((t572.length : Int) == 0)) = true
            · rw [if_pos c24] at H
              have c24b0 : (t584 != ((t572.length : Int) == 0)) = true := c24
              (try (have c24b1 : decide (t584 = ((t572.length : Int) == 0)) = false := by simpa using c24))
              (try (have c24b2 : (t584 == ((t572.length : Int) == 0)) = false := by simpa using c24))
              (try (have c24b3 : ¬ (t584 = ((t572.length : Int) == 0)) := by simpa using c24))
              clear c24
              have H' := Aside0.mk H
              clear H
              have hnb25 := NB575_581.out
              have hnc25 := NB581_575.out
              have hcz26_0 : w14.cell? ⟨gb575, 0, none⟩ = some (.slice Ao11 t569.length co11) := (blk_cell BK575.out 0).trans rfl
              have hfz26_0 := blk_frozen BK575.out 0
              go_wp2_with (first | (go_at_call 22; (with_reducible refine (nat_Nat_Bits.calls _ _ t569 t582 _ ?side1 ?side2 A20.out).mono ?_); (case side1 => refine (Kd.V_reads' (e := 27) (base := w.heap.size) (ok := fun k_ => ((True ∧ k_ ≠ gb575) ∧ k_ ≠ gb581)) (n := t569.length) (c := co11) ?_).2.2; exact (by (with_reducible repeat (first | apply Kd.V_alloc | apply Kd.V_drewN | apply Kd.V_drew)); exact (Kd.V_mono (Kd.V_far (p := ⟨gb581, 0, none⟩) (Kd.V_mono HO571.out (fun k_ hk => (⟨hk, hk.2⟩ : _ ∧ k_ ≠ gb581))) (fun _ hk => hk.2) (.slice Ao15 t576.length co15)) (fun _ h_ => h_.1)))); (case side2 => exact (Kd.V_reads' HO571.out).2.1); rintro e w27 ⟨rfl, hb⟩; have n0_ := Aside0.mk (Kd.V_below (by (with_reducible repeat (first | apply Kd.V_alloc | apply Kd.V_drewN | apply Kd.V_drew)); exact (Kd.V_mono (Kd.V_far (p := ⟨gb581, 0, none⟩) (Kd.V_mono HO571.out (fun k_ hk => (⟨hk, hk.2⟩ : _ ∧ k_ ≠ gb581))) (fun _ hk => hk.2) (.slice Ao15 t576.length co15)) (fun _ h_ => h_.1))) hb); have n1_ := Aside0.mk (Kd.V_below (by (with_reducible repeat (first | apply Kd.V_alloc | apply Kd.V_drewN | apply Kd.V_drew)); exact (Kd.V_mono (Kd.V_far (p := ⟨gb581, 0, none⟩) (Kd.V_mono HO574.out (fun k_ hk => (⟨hk, hk.2⟩ : _ ∧ k_ ≠ gb581))) (fun _ hk => hk.2) (.slice Ao15 t576.length co15)) (fun _ h_ => h_.1))) hb); have n2_ := Aside0.mk (Kd.V_below (by (with_reducible repeat (first | apply Kd.V_alloc | apply Kd.V_drewN | apply Kd.V_drew)); exact (Kd.V_mono (Kd.V_far (p := ⟨gb581, 0, none⟩) (Kd.V_mono HO578.out (fun k_ hk => (⟨hk, hk.2⟩ : _ ∧ k_ ≠ gb581))) (fun _ hk => hk.2) (.slice Ao15 t576.length co15)) (fun _ h_ => h_.1))) hb); have n3_ := Aside0.mk (blk_below (g := gb575) (o := .cells #[.slice Ao11 t569.length co11] 31 (0, 0)) (by (with_reducible repeat (first | refine blk_drewN ?_ _ | refine blk_drew ?_ | refine blk_alloc ?_ _)); refine blk_far ?_ NB575_581.out _; (with_reducible repeat (first | refine blk_drewN ?_ _ | refine blk_drew ?_ | refine blk_alloc ?_ _)); exact BK575.out) hb); have n4_ := Aside0.mk (blk_below (g := gb581) (o := .cells #[.slice Ao15 t576.length co15] 31 (0, 0)) (by (with_reducible repeat (first | refine blk_drewN ?_ _ | refine blk_drew ?_ | refine blk_alloc ?_ _)); refine blk_put (cs := #[.slice none 0 0]) ?_ 0 _ rfl; (with_reducible repeat (first | refine blk_drewN ?_ _ | refine blk_drew ?_ | refine blk_alloc ?_ _)); exact BK581.out) hb); have n5_ := Aside0.mk (below_step (by repeat (first | (with_reducible first | exact HB.out | apply below_alloc | apply pw_below_drewN | apply below_drew1 | refine below_set ?_ GE575.out | refine below_set ?_ GE581.out) | exact HB.out)) hb); clear HO571; clear HO574; clear HO578; clear BK575; clear BK581; clear HB; have HO571 := n0_; have HO574 := n1_; have HO578 := n2_; have BK575 := n3_; have BK581 := n4_; have HB := n5_; clear n0_ n1_ n2_ n3_ n4_ n5_; (try clear hb); (try clear hb2); (try clear hk); (try clear hi); obtain ⟨Ao28, co28, eo28⟩ := Kd.V_slice HO574.out; subst eo28) | (go_at_call 43; (with_reducible refine (coxswainref03_Bits.calls k (fun k_ => ((True ∧ k_ ≠ gb575) ∧ k_ ≠ gb581)) _ _ t572 t583 _ ?side1 A21.out).mono ?_); (case side1 => exact HO574.out); rintro e w29 ⟨rfl, hb⟩; have n0_ := Aside0.mk (Kd.V_below (by (with_reducible repeat (first | apply Kd.V_alloc | apply Kd.V_drewN | apply Kd.V_drew)); exact HO571.out) hb); have n1_ := Aside0.mk (Kd.V_below (by (with_reducible repeat (first | apply Kd.V_alloc | apply Kd.V_drewN | apply Kd.V_drew)); exact HO574.out) hb); have n2_ := Aside0.mk (Kd.V_below (by (with_reducible repeat (first | apply Kd.V_alloc | apply Kd.V_drewN | apply Kd.V_drew)); exact HO578.out) hb); have n3_ := Aside0.mk (blk_below (g := gb575) (o := .cells #[.slice Ao11 t569.length co11] 31 (0, 0)) (by (with_reducible repeat (first | refine blk_drewN ?_ _ | refine blk_drew ?_ | refine blk_alloc ?_ _)); exact BK575.out) hb); have n4_ := Aside0.mk (blk_below (g := gb581) (o := .cells #[.slice Ao15 t576.length co15] 31 (0, 0)) (by (with_reducible repeat (first | refine blk_drewN ?_ _ | refine blk_drew ?_ | refine blk_alloc ?_ _)); exact BK581.out) hb); have n5_ := Aside0.mk (below_step (by repeat (first | (with_reducible first | exact HB.out | apply below_alloc | apply pw_below_drewN | apply below_drew1 | refine below_set ?_ GE575.out | refine below_set ?_ GE581.out) | exact HB.out)) hb); clear HO571; clear HO574; clear HO578; clear BK575; clear BK581; clear HB; have HO571 := n0_; have HO574 := n1_; have HO578 := n2_; have BK575 := n3_; have BK581 := n4_; have HB := n5_; clear n0_ n1_ n2_ n3_ n4_ n5_; (try clear hb); (try clear hb2); (try clear hk); (try clear hi); have hcz30_0 : w29.cell? ⟨gb575, 0, none⟩ = some (.slice Ao11 t569.length co11) := (blk_cell BK575.out 0).trans rfl; have hfz30_0 := blk_frozen BK575.out 0) | (go_at_call 24; (with_reducible refine (nat_Nat_Zero.calls _ _ t569 t584 _ ?side1 ?side2 A23.out).mono ?_); (case side1 => repeat (first | exact (Kd.V_reads' HO571.out).2.2 | (with_reducible refine Kd.C_alloc ?_ _) | (with_reducible refine Kd.C_drewN ?_ _) | (with_reducible refine Kd.C_drew ?_))); (case side2 => exact (Kd.V_reads' HO571.out).2.1); rintro e w31 ⟨rfl, hb⟩; have n0_ := Aside0.mk (Kd.V_below (by (with_reducible repeat (first | apply Kd.V_alloc | apply Kd.V_drewN | apply Kd.V_drew)); exact HO571.out) hb); have n1_ := Aside0.mk (Kd.V_below (by (with_reducible repeat (first | apply Kd.V_alloc | apply Kd.V_drewN | apply Kd.V_drew)); exact HO574.out) hb); have n2_ := Aside0.mk (Kd.V_below (by (with_reducible repeat (first | apply Kd.V_alloc | apply Kd.V_drewN | apply Kd.V_drew)); exact HO578.out) hb); have n3_ := Aside0.mk (blk_below (g := gb575) (o := .cells #[.slice Ao11 t569.length co11] 31 (0, 0)) (by (with_reducible repeat (first | refine blk_drewN ?_ _ | refine blk_drew ?_ | refine blk_alloc ?_ _)); exact BK575.out) hb); have n4_ := Aside0.mk (blk_below (g := gb581) (o := .cells #[.slice Ao15 t576.length co15] 31 (0, 0)) (by (with_reducible repeat (first | refine blk_drewN ?_ _ | refine blk_drew ?_ | refine blk_alloc ?_ _)); exact BK581.out) hb); have n5_ := Aside0.mk (below_step (by repeat (first | (with_reducible first | exact HB.out | apply below_alloc | apply pw_below_drewN | apply below_drew1 | refine below_set ?_ GE575.out | refine below_set ?_ GE581.out) | exact HB.out)) hb); clear HO571; clear HO574; clear HO578; clear BK575; clear BK581; clear HB; have HO571 := n0_; have HO574 := n1_; have HO578 := n2_; have BK575 := n3_; have BK581 := n4_; have HB := n5_; clear n0_ n1_ n2_ n3_ n4_ n5_; (try clear hb); (try clear hb2); (try clear hk); (try clear hi)))
              go_meet
              case rel => exact ⟨_, (true), (by first | rfl | (simp; done) | (simp [*]; done)), H', ⟨by first | omega | exact Nat.le_refl _⟩, ⟨by (with_reducible repeat (first | apply Kd.V_alloc | apply Kd.V_drewN | apply Kd.V_drew)); exact Kd.V_mono HO574.out (fun _ hk => ⟨hk.1.2, hk.2⟩)⟩, ⟨by (with_reducible repeat (first | apply Kd.V_alloc | apply Kd.V_drewN | apply Kd.V_drew)); exact Kd.V_mono HO571.out (fun _ hk => ⟨hk.1.2, hk.2⟩)⟩, ⟨by (with_reducible repeat (first | apply Kd.V_alloc | apply Kd.V_drewN | apply Kd.V_drew)); exact HO578.out⟩, ⟨by (with_reducible repeat (first | refine blk_drewN ?_ _ | refine blk_drew ?_ | refine blk_alloc ?_ _)); exact BK575.out⟩, ⟨by (with_reducible repeat (first | refine blk_drewN ?_ _ | refine blk_drew ?_ | refine blk_alloc ?_ _)); exact BK581.out⟩, ⟨by repeat (first | (with_reducible first | exact HB.out | apply below_alloc | apply pw_below_drewN | apply below_drew1 | refine below_set ?_ GE575.out | refine below_set ?_ GE581.out) | exact HB.out)⟩⟩
            · rw [if_neg c24] at H
              have c24b0 : (t584 != ((t572.length : Int) == 0)) = false := by simpa using c24
              (try (have c24b1 : decide (t584 = ((t572.length : Int) == 0)) = true := by simpa using c24))
              (try (have c24b2 : (t584 == ((t572.length : Int) == 0)) = true := by simpa using c24))
              clear c24
              replace H := Option.bind_eq_some_iff.mp H
              obtain ⟨t585, A320, H⟩ := H
              replace H : ((coxswainref03_Bytes.f k t572).bind fun t586 => (if t585.toList = t586.toList then ((nat_Nat_Text.f k t569).bind fun t587 => ((coxswainref03_Text.f k t572).bind fun t588 => (coxswainlaw03_NatOne.j0 k a1 t572 t579 true (t587.toList != t588.toList) t569 t576))) else (coxswainlaw03_NatOne.j0 k a1 t572 t579 true true t569 t576))) = some r := H
              have A32 := Aside0.mk A320
              clear A320
              replace H := Option.bind_eq_some_iff.mp H
              obtain ⟨t586, A330, H⟩ := H
              replace H : (if t585.toList = t586.toList then ((nat_Nat_Text.f k t569).bind fun t587 => ((coxswainref03_Text.f k t572).bind fun t588 => (coxswainlaw03_NatOne.j0 k a1 t572 t579 true (t587.toList != t588.toList) t569 t576))) else (coxswainlaw03_NatOne.j0 k a1 t572 t579 true true t569 t576)) = some r := H
              have A33 := Aside0.mk A330
              clear A330
              by_cases c34 : t585.toList = t586.toList
              · rw [if_pos c34] at H
                have c34b0 : (t585.toList == t586.toList) = true := beq_iff_eq.mpr c34
                have c34b1 : (t585.toList != t586.toList) = false := bne_eq_false_iff_eq.mpr c34
                clear c34
                replace H := Option.bind_eq_some_iff.mp H
                obtain ⟨t587, A350, H⟩ := H
                replace H : ((coxswainref03_Text.f k t572).bind fun t588 => (coxswainlaw03_NatOne.j0 k a1 t572 t579 true (t587.toList != t588.toList) t569 t576)) = some r := H
                have A35 := Aside0.mk A350
                clear A350
                replace H := Option.bind_eq_some_iff.mp H
                obtain ⟨t588, A360, H⟩ := H
                replace H : (coxswainlaw03_NatOne.j0 k a1 t572 t579 true (t587.toList != t588.toList) t569 t576) = some r := H
                have A36 := Aside0.mk A360
                clear A360
                have H' := Aside0.mk H
                clear H
                have hnb37 := NB575_581.out
                have hnc37 := NB581_575.out
                have hcz38_0 : w14.cell? ⟨gb575, 0, none⟩ = some (.slice Ao11 t569.length co11) := (blk_cell BK575.out 0).trans rfl
                have hfz38_0 := blk_frozen BK575.out 0
                go_wp2_with (first | (go_at_call 22; (with_reducible refine (nat_Nat_Bits.calls _ _ t569 t582 _ ?side1 ?side2 A20.out).mono ?_); (case side1 => refine (Kd.V_reads' (e := 27) (base := w.heap.size) (ok := fun k_ => ((True ∧ k_ ≠ gb575) ∧ k_ ≠ gb581)) (n := t569.length) (c := co11) ?_).2.2; exact (by (with_reducible repeat (first | apply Kd.V_alloc | apply Kd.V_drewN | apply Kd.V_drew)); exact (Kd.V_mono (Kd.V_far (p := ⟨gb581, 0, none⟩) (Kd.V_mono HO571.out (fun k_ hk => (⟨hk, hk.2⟩ : _ ∧ k_ ≠ gb581))) (fun _ hk => hk.2) (.slice Ao15 t576.length co15)) (fun _ h_ => h_.1)))); (case side2 => exact (Kd.V_reads' HO571.out).2.1); rintro e w39 ⟨rfl, hb⟩; have n0_ := Aside0.mk (Kd.V_below (by (with_reducible repeat (first | apply Kd.V_alloc | apply Kd.V_drewN | apply Kd.V_drew)); exact (Kd.V_mono (Kd.V_far (p := ⟨gb581, 0, none⟩) (Kd.V_mono HO571.out (fun k_ hk => (⟨hk, hk.2⟩ : _ ∧ k_ ≠ gb581))) (fun _ hk => hk.2) (.slice Ao15 t576.length co15)) (fun _ h_ => h_.1))) hb); have n1_ := Aside0.mk (Kd.V_below (by (with_reducible repeat (first | apply Kd.V_alloc | apply Kd.V_drewN | apply Kd.V_drew)); exact (Kd.V_mono (Kd.V_far (p := ⟨gb581, 0, none⟩) (Kd.V_mono HO574.out (fun k_ hk => (⟨hk, hk.2⟩ : _ ∧ k_ ≠ gb581))) (fun _ hk => hk.2) (.slice Ao15 t576.length co15)) (fun _ h_ => h_.1))) hb); have n2_ := Aside0.mk (Kd.V_below (by (with_reducible repeat (first | apply Kd.V_alloc | apply Kd.V_drewN | apply Kd.V_drew)); exact (Kd.V_mono (Kd.V_far (p := ⟨gb581, 0, none⟩) (Kd.V_mono HO578.out (fun k_ hk => (⟨hk, hk.2⟩ : _ ∧ k_ ≠ gb581))) (fun _ hk => hk.2) (.slice Ao15 t576.length co15)) (fun _ h_ => h_.1))) hb); have n3_ := Aside0.mk (blk_below (g := gb575) (o := .cells #[.slice Ao11 t569.length co11] 31 (0, 0)) (by (with_reducible repeat (first | refine blk_drewN ?_ _ | refine blk_drew ?_ | refine blk_alloc ?_ _)); refine blk_far ?_ NB575_581.out _; (with_reducible repeat (first | refine blk_drewN ?_ _ | refine blk_drew ?_ | refine blk_alloc ?_ _)); exact BK575.out) hb); have n4_ := Aside0.mk (blk_below (g := gb581) (o := .cells #[.slice Ao15 t576.length co15] 31 (0, 0)) (by (with_reducible repeat (first | refine blk_drewN ?_ _ | refine blk_drew ?_ | refine blk_alloc ?_ _)); refine blk_put (cs := #[.slice none 0 0]) ?_ 0 _ rfl; (with_reducible repeat (first | refine blk_drewN ?_ _ | refine blk_drew ?_ | refine blk_alloc ?_ _)); exact BK581.out) hb); have n5_ := Aside0.mk (below_step (by repeat (first | (with_reducible first | exact HB.out | apply below_alloc | apply pw_below_drewN | apply below_drew1 | refine below_set ?_ GE575.out | refine below_set ?_ GE581.out) | exact HB.out)) hb); clear HO571; clear HO574; clear HO578; clear BK575; clear BK581; clear HB; have HO571 := n0_; have HO574 := n1_; have HO578 := n2_; have BK575 := n3_; have BK581 := n4_; have HB := n5_; clear n0_ n1_ n2_ n3_ n4_ n5_; (try clear hb); (try clear hb2); (try clear hk); (try clear hi); obtain ⟨Ao40, co40, eo40⟩ := Kd.V_slice HO574.out; subst eo40) | (go_at_call 43; (with_reducible refine (coxswainref03_Bits.calls k (fun k_ => ((True ∧ k_ ≠ gb575) ∧ k_ ≠ gb581)) _ _ t572 t583 _ ?side1 A21.out).mono ?_); (case side1 => exact HO574.out); rintro e w41 ⟨rfl, hb⟩; have n0_ := Aside0.mk (Kd.V_below (by (with_reducible repeat (first | apply Kd.V_alloc | apply Kd.V_drewN | apply Kd.V_drew)); exact HO571.out) hb); have n1_ := Aside0.mk (Kd.V_below (by (with_reducible repeat (first | apply Kd.V_alloc | apply Kd.V_drewN | apply Kd.V_drew)); exact HO574.out) hb); have n2_ := Aside0.mk (Kd.V_below (by (with_reducible repeat (first | apply Kd.V_alloc | apply Kd.V_drewN | apply Kd.V_drew)); exact HO578.out) hb); have n3_ := Aside0.mk (blk_below (g := gb575) (o := .cells #[.slice Ao11 t569.length co11] 31 (0, 0)) (by (with_reducible repeat (first | refine blk_drewN ?_ _ | refine blk_drew ?_ | refine blk_alloc ?_ _)); exact BK575.out) hb); have n4_ := Aside0.mk (blk_below (g := gb581) (o := .cells #[.slice Ao15 t576.length co15] 31 (0, 0)) (by (with_reducible repeat (first | refine blk_drewN ?_ _ | refine blk_drew ?_ | refine blk_alloc ?_ _)); exact BK581.out) hb); have n5_ := Aside0.mk (below_step (by repeat (first | (with_reducible first | exact HB.out | apply below_alloc | apply pw_below_drewN | apply below_drew1 | refine below_set ?_ GE575.out | refine below_set ?_ GE581.out) | exact HB.out)) hb); clear HO571; clear HO574; clear HO578; clear BK575; clear BK581; clear HB; have HO571 := n0_; have HO574 := n1_; have HO578 := n2_; have BK575 := n3_; have BK581 := n4_; have HB := n5_; clear n0_ n1_ n2_ n3_ n4_ n5_; (try clear hb); (try clear hb2); (try clear hk); (try clear hi); have hcz42_0 : w41.cell? ⟨gb575, 0, none⟩ = some (.slice Ao11 t569.length co11) := (blk_cell BK575.out 0).trans rfl; have hfz42_0 := blk_frozen BK575.out 0) | (go_at_call 24; (with_reducible refine (nat_Nat_Zero.calls _ _ t569 t584 _ ?side1 ?side2 A23.out).mono ?_); (case side1 => repeat (first | exact (Kd.V_reads' HO571.out).2.2 | (with_reducible refine Kd.C_alloc ?_ _) | (with_reducible refine Kd.C_drewN ?_ _) | (with_reducible refine Kd.C_drew ?_))); (case side2 => exact (Kd.V_reads' HO571.out).2.1); rintro e w43 ⟨rfl, hb⟩; have n0_ := Aside0.mk (Kd.V_below (by (with_reducible repeat (first | apply Kd.V_alloc | apply Kd.V_drewN | apply Kd.V_drew)); exact HO571.out) hb); have n1_ := Aside0.mk (Kd.V_below (by (with_reducible repeat (first | apply Kd.V_alloc | apply Kd.V_drewN | apply Kd.V_drew)); exact HO574.out) hb); have n2_ := Aside0.mk (Kd.V_below (by (with_reducible repeat (first | apply Kd.V_alloc | apply Kd.V_drewN | apply Kd.V_drew)); exact HO578.out) hb); have n3_ := Aside0.mk (blk_below (g := gb575) (o := .cells #[.slice Ao11 t569.length co11] 31 (0, 0)) (by (with_reducible repeat (first | refine blk_drewN ?_ _ | refine blk_drew ?_ | refine blk_alloc ?_ _)); exact BK575.out) hb); have n4_ := Aside0.mk (blk_below (g := gb581) (o := .cells #[.slice Ao15 t576.length co15] 31 (0, 0)) (by (with_reducible repeat (first | refine blk_drewN ?_ _ | refine blk_drew ?_ | refine blk_alloc ?_ _)); exact BK581.out) hb); have n5_ := Aside0.mk (below_step (by repeat (first | (with_reducible first | exact HB.out | apply below_alloc | apply pw_below_drewN | apply below_drew1 | refine below_set ?_ GE575.out | refine below_set ?_ GE581.out) | exact HB.out)) hb); clear HO571; clear HO574; clear HO578; clear BK575; clear BK581; clear HB; have HO571 := n0_; have HO574 := n1_; have HO578 := n2_; have BK575 := n3_; have BK581 := n4_; have HB := n5_; clear n0_ n1_ n2_ n3_ n4_ n5_; (try clear hb); (try clear hb2); (try clear hk); (try clear hi); have hcz44_0 : w43.cell? ⟨gb575, 0, none⟩ = some (.slice Ao11 t569.length co11) := (blk_cell BK575.out 0).trans rfl; have hfz44_0 := blk_frozen BK575.out 0) | (go_at_call 41; (with_reducible refine (nat_Nat_Bytes.calls k _ _ t569 t585 _ ?side1 ?side2 A32.out).mono ?_); (case side1 => repeat (first | exact (Kd.V_reads' HO571.out).2.2 | (with_reducible refine Kd.C_alloc ?_ _) | (with_reducible refine Kd.C_drewN ?_ _) | (with_reducible refine Kd.C_drew ?_))); (case side2 => exact (Kd.V_reads' HO571.out).2.1); rintro e w45 ⟨rfl, hb⟩; have n0_ := Aside0.mk (Kd.V_below (by (with_reducible repeat (first | apply Kd.V_alloc | apply Kd.V_drewN | apply Kd.V_drew)); exact HO571.out) hb); have n1_ := Aside0.mk (Kd.V_below (by (with_reducible repeat (first | apply Kd.V_alloc | apply Kd.V_drewN | apply Kd.V_drew)); exact HO574.out) hb); have n2_ := Aside0.mk (Kd.V_below (by (with_reducible repeat (first | apply Kd.V_alloc | apply Kd.V_drewN | apply Kd.V_drew)); exact HO578.out) hb); have n3_ := Aside0.mk (blk_below (g := gb575) (o := .cells #[.slice Ao11 t569.length co11] 31 (0, 0)) (by (with_reducible repeat (first | refine blk_drewN ?_ _ | refine blk_drew ?_ | refine blk_alloc ?_ _)); exact BK575.out) hb); have n4_ := Aside0.mk (blk_below (g := gb581) (o := .cells #[.slice Ao15 t576.length co15] 31 (0, 0)) (by (with_reducible repeat (first | refine blk_drewN ?_ _ | refine blk_drew ?_ | refine blk_alloc ?_ _)); exact BK581.out) hb); have n5_ := Aside0.mk (below_step (by repeat (first | (with_reducible first | exact HB.out | apply below_alloc | apply pw_below_drewN | apply below_drew1 | refine below_set ?_ GE575.out | refine below_set ?_ GE581.out) | exact HB.out)) hb); clear HO571; clear HO574; clear HO578; clear BK575; clear BK581; clear HB; have HO571 := n0_; have HO574 := n1_; have HO578 := n2_; have BK575 := n3_; have BK581 := n4_; have HB := n5_; clear n0_ n1_ n2_ n3_ n4_ n5_; (try clear hb); (try clear hb2); (try clear hk); (try clear hi)) | (go_at_call 44; (with_reducible refine (coxswainref03_Bytes.calls k (fun k_ => ((True ∧ k_ ≠ gb575) ∧ k_ ≠ gb581)) _ _ t572 t586 _ ?side1 A33.out).mono ?_); (case side1 => exact HO574.out); rintro e w46 ⟨rfl, hb⟩; have n0_ := Aside0.mk (Kd.V_below (by (with_reducible repeat (first | apply Kd.V_alloc | apply Kd.V_drewN | apply Kd.V_drew)); exact HO571.out) hb); have n1_ := Aside0.mk (Kd.V_below (by (with_reducible repeat (first | apply Kd.V_alloc | apply Kd.V_drewN | apply Kd.V_drew)); exact HO574.out) hb); have n2_ := Aside0.mk (Kd.V_below (by (with_reducible repeat (first | apply Kd.V_alloc | apply Kd.V_drewN | apply Kd.V_drew)); exact HO578.out) hb); have n3_ := Aside0.mk (blk_below (g := gb575) (o := .cells #[.slice Ao11 t569.length co11] 31 (0, 0)) (by (with_reducible repeat (first | refine blk_drewN ?_ _ | refine blk_drew ?_ | refine blk_alloc ?_ _)); exact BK575.out) hb); have n4_ := Aside0.mk (blk_below (g := gb581) (o := .cells #[.slice Ao15 t576.length co15] 31 (0, 0)) (by (with_reducible repeat (first | refine blk_drewN ?_ _ | refine blk_drew ?_ | refine blk_alloc ?_ _)); exact BK581.out) hb); have n5_ := Aside0.mk (below_step (by repeat (first | (with_reducible first | exact HB.out | apply below_alloc | apply pw_below_drewN | apply below_drew1 | refine below_set ?_ GE575.out | refine below_set ?_ GE581.out) | exact HB.out)) hb); clear HO571; clear HO574; clear HO578; clear BK575; clear BK581; clear HB; have HO571 := n0_; have HO574 := n1_; have HO578 := n2_; have BK575 := n3_; have BK581 := n4_; have HB := n5_; clear n0_ n1_ n2_ n3_ n4_ n5_; (try clear hb); (try clear hb2); (try clear hk); (try clear hi); have hcz47_0 : w46.cell? ⟨gb575, 0, none⟩ = some (.slice Ao11 t569.length co11) := (blk_cell BK575.out 0).trans rfl; have hfz47_0 := blk_frozen BK575.out 0) | (go_at_call 26; (with_reducible refine (nat_Nat_Text.calls k (fun k_ => ((True ∧ k_ ≠ gb575) ∧ k_ ≠ gb581)) _ _ t569 t587 _ ?side1 A35.out).mono ?_); (case side1 => exact HO571.out); rintro e w48 ⟨rfl, hb⟩; have n0_ := Aside0.mk (Kd.V_below (by (with_reducible repeat (first | apply Kd.V_alloc | apply Kd.V_drewN | apply Kd.V_drew)); exact HO571.out) hb); have n1_ := Aside0.mk (Kd.V_below (by (with_reducible repeat (first | apply Kd.V_alloc | apply Kd.V_drewN | apply Kd.V_drew)); exact HO574.out) hb); have n2_ := Aside0.mk (Kd.V_below (by (with_reducible repeat (first | apply Kd.V_alloc | apply Kd.V_drewN | apply Kd.V_drew)); exact HO578.out) hb); have n3_ := Aside0.mk (blk_below (g := gb575) (o := .cells #[.slice Ao11 t569.length co11] 31 (0, 0)) (by (with_reducible repeat (first | refine blk_drewN ?_ _ | refine blk_drew ?_ | refine blk_alloc ?_ _)); exact BK575.out) hb); have n4_ := Aside0.mk (blk_below (g := gb581) (o := .cells #[.slice Ao15 t576.length co15] 31 (0, 0)) (by (with_reducible repeat (first | refine blk_drewN ?_ _ | refine blk_drew ?_ | refine blk_alloc ?_ _)); exact BK581.out) hb); have n5_ := Aside0.mk (below_step (by repeat (first | (with_reducible first | exact HB.out | apply below_alloc | apply pw_below_drewN | apply below_drew1 | refine below_set ?_ GE575.out | refine below_set ?_ GE581.out) | exact HB.out)) hb); clear HO571; clear HO574; clear HO578; clear BK575; clear BK581; clear HB; have HO571 := n0_; have HO574 := n1_; have HO578 := n2_; have BK575 := n3_; have BK581 := n4_; have HB := n5_; clear n0_ n1_ n2_ n3_ n4_ n5_; (try clear hb); (try clear hb2); (try clear hk); (try clear hi)) | (go_at_call 27; (with_reducible refine (coxswainref03_Text.calls k _ _ t572 t588 _ ?side1 ?side2 A36.out).mono ?_); (case side1 => repeat (first | exact (Kd.V_reads' HO574.out).2.2 | (with_reducible refine Kd.C_alloc ?_ _) | (with_reducible refine Kd.C_drewN ?_ _) | (with_reducible refine Kd.C_drew ?_))); (case side2 => exact (Kd.V_reads' HO574.out).2.1); rintro e w49 ⟨rfl, hb⟩; have n0_ := Aside0.mk (Kd.V_below (by (with_reducible repeat (first | apply Kd.V_alloc | apply Kd.V_drewN | apply Kd.V_drew)); exact HO571.out) hb); have n1_ := Aside0.mk (Kd.V_below (by (with_reducible repeat (first | apply Kd.V_alloc | apply Kd.V_drewN | apply Kd.V_drew)); exact HO574.out) hb); have n2_ := Aside0.mk (Kd.V_below (by (with_reducible repeat (first | apply Kd.V_alloc | apply Kd.V_drewN | apply Kd.V_drew)); exact HO578.out) hb); have n3_ := Aside0.mk (blk_below (g := gb575) (o := .cells #[.slice Ao11 t569.length co11] 31 (0, 0)) (by (with_reducible repeat (first | refine blk_drewN ?_ _ | refine blk_drew ?_ | refine blk_alloc ?_ _)); exact BK575.out) hb); have n4_ := Aside0.mk (blk_below (g := gb581) (o := .cells #[.slice Ao15 t576.length co15] 31 (0, 0)) (by (with_reducible repeat (first | refine blk_drewN ?_ _ | refine blk_drew ?_ | refine blk_alloc ?_ _)); exact BK581.out) hb); have n5_ := Aside0.mk (below_step (by repeat (first | (with_reducible first | exact HB.out | apply below_alloc | apply pw_below_drewN | apply below_drew1 | refine below_set ?_ GE575.out | refine below_set ?_ GE581.out) | exact HB.out)) hb); clear HO571; clear HO574; clear HO578; clear BK575; clear BK581; clear HB; have HO571 := n0_; have HO574 := n1_; have HO578 := n2_; have BK575 := n3_; have BK581 := n4_; have HB := n5_; clear n0_ n1_ n2_ n3_ n4_ n5_; (try clear hb); (try clear hb2); (try clear hk); (try clear hi)))
                go_meet
                case rel => exact ⟨_, ((t587.toList != t588.toList)), (by first | rfl | (simp; done) | (simp [*]; done)), H', ⟨by first | omega | exact Nat.le_refl _⟩, ⟨by (with_reducible repeat (first | apply Kd.V_alloc | apply Kd.V_drewN | apply Kd.V_drew)); exact Kd.V_mono HO574.out (fun _ hk => ⟨hk.1.2, hk.2⟩)⟩, ⟨by (with_reducible repeat (first | apply Kd.V_alloc | apply Kd.V_drewN | apply Kd.V_drew)); exact Kd.V_mono HO571.out (fun _ hk => ⟨hk.1.2, hk.2⟩)⟩, ⟨by (with_reducible repeat (first | apply Kd.V_alloc | apply Kd.V_drewN | apply Kd.V_drew)); exact HO578.out⟩, ⟨by (with_reducible repeat (first | refine blk_drewN ?_ _ | refine blk_drew ?_ | refine blk_alloc ?_ _)); exact BK575.out⟩, ⟨by (with_reducible repeat (first | refine blk_drewN ?_ _ | refine blk_drew ?_ | refine blk_alloc ?_ _)); exact BK581.out⟩, ⟨by repeat (first | (with_reducible first | exact HB.out | apply below_alloc | apply pw_below_drewN | apply below_drew1 | refine below_set ?_ GE575.out | refine below_set ?_ GE581.out) | exact HB.out)⟩⟩
              · rw [if_neg c34] at H
                have c34b0 : (t585.toList == t586.toList) = false := beq_eq_false_iff_ne.mpr c34
                have c34b1 : (t585.toList != t586.toList) = true := bne_iff_ne.mpr c34
                have H' := Aside0.mk H
                clear H
                have hnb50 := NB575_581.out
                have hnc50 := NB581_575.out
                have hcz51_0 : w14.cell? ⟨gb575, 0, none⟩ = some (.slice Ao11 t569.length co11) := (blk_cell BK575.out 0).trans rfl
                have hfz51_0 := blk_frozen BK575.out 0
                go_wp2_with (first | (go_at_call 22; (with_reducible refine (nat_Nat_Bits.calls _ _ t569 t582 _ ?side1 ?side2 A20.out).mono ?_); (case side1 => refine (Kd.V_reads' (e := 27) (base := w.heap.size) (ok := fun k_ => ((True ∧ k_ ≠ gb575) ∧ k_ ≠ gb581)) (n := t569.length) (c := co11) ?_).2.2; exact (by (with_reducible repeat (first | apply Kd.V_alloc | apply Kd.V_drewN | apply Kd.V_drew)); exact (Kd.V_mono (Kd.V_far (p := ⟨gb581, 0, none⟩) (Kd.V_mono HO571.out (fun k_ hk => (⟨hk, hk.2⟩ : _ ∧ k_ ≠ gb581))) (fun _ hk => hk.2) (.slice Ao15 t576.length co15)) (fun _ h_ => h_.1)))); (case side2 => exact (Kd.V_reads' HO571.out).2.1); rintro e w52 ⟨rfl, hb⟩; have n0_ := Aside0.mk (Kd.V_below (by (with_reducible repeat (first | apply Kd.V_alloc | apply Kd.V_drewN | apply Kd.V_drew)); exact (Kd.V_mono (Kd.V_far (p := ⟨gb581, 0, none⟩) (Kd.V_mono HO571.out (fun k_ hk => (⟨hk, hk.2⟩ : _ ∧ k_ ≠ gb581))) (fun _ hk => hk.2) (.slice Ao15 t576.length co15)) (fun _ h_ => h_.1))) hb); have n1_ := Aside0.mk (Kd.V_below (by (with_reducible repeat (first | apply Kd.V_alloc | apply Kd.V_drewN | apply Kd.V_drew)); exact (Kd.V_mono (Kd.V_far (p := ⟨gb581, 0, none⟩) (Kd.V_mono HO574.out (fun k_ hk => (⟨hk, hk.2⟩ : _ ∧ k_ ≠ gb581))) (fun _ hk => hk.2) (.slice Ao15 t576.length co15)) (fun _ h_ => h_.1))) hb); have n2_ := Aside0.mk (Kd.V_below (by (with_reducible repeat (first | apply Kd.V_alloc | apply Kd.V_drewN | apply Kd.V_drew)); exact (Kd.V_mono (Kd.V_far (p := ⟨gb581, 0, none⟩) (Kd.V_mono HO578.out (fun k_ hk => (⟨hk, hk.2⟩ : _ ∧ k_ ≠ gb581))) (fun _ hk => hk.2) (.slice Ao15 t576.length co15)) (fun _ h_ => h_.1))) hb); have n3_ := Aside0.mk (blk_below (g := gb575) (o := .cells #[.slice Ao11 t569.length co11] 31 (0, 0)) (by (with_reducible repeat (first | refine blk_drewN ?_ _ | refine blk_drew ?_ | refine blk_alloc ?_ _)); refine blk_far ?_ NB575_581.out _; (with_reducible repeat (first | refine blk_drewN ?_ _ | refine blk_drew ?_ | refine blk_alloc ?_ _)); exact BK575.out) hb); have n4_ := Aside0.mk (blk_below (g := gb581) (o := .cells #[.slice Ao15 t576.length co15] 31 (0, 0)) (by (with_reducible repeat (first | refine blk_drewN ?_ _ | refine blk_drew ?_ | refine blk_alloc ?_ _)); refine blk_put (cs := #[.slice none 0 0]) ?_ 0 _ rfl; (with_reducible repeat (first | refine blk_drewN ?_ _ | refine blk_drew ?_ | refine blk_alloc ?_ _)); exact BK581.out) hb); have n5_ := Aside0.mk (below_step (by repeat (first | (with_reducible first | exact HB.out | apply below_alloc | apply pw_below_drewN | apply below_drew1 | refine below_set ?_ GE575.out | refine below_set ?_ GE581.out) | exact HB.out)) hb); clear HO571; clear HO574; clear HO578; clear BK575; clear BK581; clear HB; have HO571 := n0_; have HO574 := n1_; have HO578 := n2_; have BK575 := n3_; have BK581 := n4_; have HB := n5_; clear n0_ n1_ n2_ n3_ n4_ n5_; (try clear hb); (try clear hb2); (try clear hk); (try clear hi); obtain ⟨Ao53, co53, eo53⟩ := Kd.V_slice HO574.out; subst eo53) | (go_at_call 43; (with_reducible refine (coxswainref03_Bits.calls k (fun k_ => ((True ∧ k_ ≠ gb575) ∧ k_ ≠ gb581)) _ _ t572 t583 _ ?side1 A21.out).mono ?_); (case side1 => exact HO574.out); rintro e w54 ⟨rfl, hb⟩; have n0_ := Aside0.mk (Kd.V_below (by (with_reducible repeat (first | apply Kd.V_alloc | apply Kd.V_drewN | apply Kd.V_drew)); exact HO571.out) hb); have n1_ := Aside0.mk (Kd.V_below (by (with_reducible repeat (first | apply Kd.V_alloc | apply Kd.V_drewN | apply Kd.V_drew)); exact HO574.out) hb); have n2_ := Aside0.mk (Kd.V_below (by (with_reducible repeat (first | apply Kd.V_alloc | apply Kd.V_drewN | apply Kd.V_drew)); exact HO578.out) hb); have n3_ := Aside0.mk (blk_below (g := gb575) (o := .cells #[.slice Ao11 t569.length co11] 31 (0, 0)) (by (with_reducible repeat (first | refine blk_drewN ?_ _ | refine blk_drew ?_ | refine blk_alloc ?_ _)); exact BK575.out) hb); have n4_ := Aside0.mk (blk_below (g := gb581) (o := .cells #[.slice Ao15 t576.length co15] 31 (0, 0)) (by (with_reducible repeat (first | refine blk_drewN ?_ _ | refine blk_drew ?_ | refine blk_alloc ?_ _)); exact BK581.out) hb); have n5_ := Aside0.mk (below_step (by repeat (first | (with_reducible first | exact HB.out | apply below_alloc | apply pw_below_drewN | apply below_drew1 | refine below_set ?_ GE575.out | refine below_set ?_ GE581.out) | exact HB.out)) hb); clear HO571; clear HO574; clear HO578; clear BK575; clear BK581; clear HB; have HO571 := n0_; have HO574 := n1_; have HO578 := n2_; have BK575 := n3_; have BK581 := n4_; have HB := n5_; clear n0_ n1_ n2_ n3_ n4_ n5_; (try clear hb); (try clear hb2); (try clear hk); (try clear hi); have hcz55_0 : w54.cell? ⟨gb575, 0, none⟩ = some (.slice Ao11 t569.length co11) := (blk_cell BK575.out 0).trans rfl; have hfz55_0 := blk_frozen BK575.out 0) | (go_at_call 24; (with_reducible refine (nat_Nat_Zero.calls _ _ t569 t584 _ ?side1 ?side2 A23.out).mono ?_); (case side1 => repeat (first | exact (Kd.V_reads' HO571.out).2.2 | (with_reducible refine Kd.C_alloc ?_ _) | (with_reducible refine Kd.C_drewN ?_ _) | (with_reducible refine Kd.C_drew ?_))); (case side2 => exact (Kd.V_reads' HO571.out).2.1); rintro e w56 ⟨rfl, hb⟩; have n0_ := Aside0.mk (Kd.V_below (by (with_reducible repeat (first | apply Kd.V_alloc | apply Kd.V_drewN | apply Kd.V_drew)); exact HO571.out) hb); have n1_ := Aside0.mk (Kd.V_below (by (with_reducible repeat (first | apply Kd.V_alloc | apply Kd.V_drewN | apply Kd.V_drew)); exact HO574.out) hb); have n2_ := Aside0.mk (Kd.V_below (by (with_reducible repeat (first | apply Kd.V_alloc | apply Kd.V_drewN | apply Kd.V_drew)); exact HO578.out) hb); have n3_ := Aside0.mk (blk_below (g := gb575) (o := .cells #[.slice Ao11 t569.length co11] 31 (0, 0)) (by (with_reducible repeat (first | refine blk_drewN ?_ _ | refine blk_drew ?_ | refine blk_alloc ?_ _)); exact BK575.out) hb); have n4_ := Aside0.mk (blk_below (g := gb581) (o := .cells #[.slice Ao15 t576.length co15] 31 (0, 0)) (by (with_reducible repeat (first | refine blk_drewN ?_ _ | refine blk_drew ?_ | refine blk_alloc ?_ _)); exact BK581.out) hb); have n5_ := Aside0.mk (below_step (by repeat (first | (with_reducible first | exact HB.out | apply below_alloc | apply pw_below_drewN | apply below_drew1 | refine below_set ?_ GE575.out | refine below_set ?_ GE581.out) | exact HB.out)) hb); clear HO571; clear HO574; clear HO578; clear BK575; clear BK581; clear HB; have HO571 := n0_; have HO574 := n1_; have HO578 := n2_; have BK575 := n3_; have BK581 := n4_; have HB := n5_; clear n0_ n1_ n2_ n3_ n4_ n5_; (try clear hb); (try clear hb2); (try clear hk); (try clear hi); have hcz57_0 : w56.cell? ⟨gb575, 0, none⟩ = some (.slice Ao11 t569.length co11) := (blk_cell BK575.out 0).trans rfl; have hfz57_0 := blk_frozen BK575.out 0) | (go_at_call 41; (with_reducible refine (nat_Nat_Bytes.calls k _ _ t569 t585 _ ?side1 ?side2 A32.out).mono ?_); (case side1 => repeat (first | exact (Kd.V_reads' HO571.out).2.2 | (with_reducible refine Kd.C_alloc ?_ _) | (with_reducible refine Kd.C_drewN ?_ _) | (with_reducible refine Kd.C_drew ?_))); (case side2 => exact (Kd.V_reads' HO571.out).2.1); rintro e w58 ⟨rfl, hb⟩; have n0_ := Aside0.mk (Kd.V_below (by (with_reducible repeat (first | apply Kd.V_alloc | apply Kd.V_drewN | apply Kd.V_drew)); exact HO571.out) hb); have n1_ := Aside0.mk (Kd.V_below (by (with_reducible repeat (first | apply Kd.V_alloc | apply Kd.V_drewN | apply Kd.V_drew)); exact HO574.out) hb); have n2_ := Aside0.mk (Kd.V_below (by (with_reducible repeat (first | apply Kd.V_alloc | apply Kd.V_drewN | apply Kd.V_drew)); exact HO578.out) hb); have n3_ := Aside0.mk (blk_below (g := gb575) (o := .cells #[.slice Ao11 t569.length co11] 31 (0, 0)) (by (with_reducible repeat (first | refine blk_drewN ?_ _ | refine blk_drew ?_ | refine blk_alloc ?_ _)); exact BK575.out) hb); have n4_ := Aside0.mk (blk_below (g := gb581) (o := .cells #[.slice Ao15 t576.length co15] 31 (0, 0)) (by (with_reducible repeat (first | refine blk_drewN ?_ _ | refine blk_drew ?_ | refine blk_alloc ?_ _)); exact BK581.out) hb); have n5_ := Aside0.mk (below_step (by repeat (first | (with_reducible first | exact HB.out | apply below_alloc | apply pw_below_drewN | apply below_drew1 | refine below_set ?_ GE575.out | refine below_set ?_ GE581.out) | exact HB.out)) hb); clear HO571; clear HO574; clear HO578; clear BK575; clear BK581; clear HB; have HO571 := n0_; have HO574 := n1_; have HO578 := n2_; have BK575 := n3_; have BK581 := n4_; have HB := n5_; clear n0_ n1_ n2_ n3_ n4_ n5_; (try clear hb); (try clear hb2); (try clear hk); (try clear hi)) | (go_at_call 44; (with_reducible refine (coxswainref03_Bytes.calls k (fun k_ => ((True ∧ k_ ≠ gb575) ∧ k_ ≠ gb581)) _ _ t572 t586 _ ?side1 A33.out).mono ?_); (case side1 => exact HO574.out); rintro e w59 ⟨rfl, hb⟩; have n0_ := Aside0.mk (Kd.V_below (by (with_reducible repeat (first | apply Kd.V_alloc | apply Kd.V_drewN | apply Kd.V_drew)); exact HO571.out) hb); have n1_ := Aside0.mk (Kd.V_below (by (with_reducible repeat (first | apply Kd.V_alloc | apply Kd.V_drewN | apply Kd.V_drew)); exact HO574.out) hb); have n2_ := Aside0.mk (Kd.V_below (by (with_reducible repeat (first | apply Kd.V_alloc | apply Kd.V_drewN | apply Kd.V_drew)); exact HO578.out) hb); have n3_ := Aside0.mk (blk_below (g := gb575) (o := .cells #[.slice Ao11 t569.length co11] 31 (0, 0)) (by (with_reducible repeat (first | refine blk_drewN ?_ _ | refine blk_drew ?_ | refine blk_alloc ?_ _)); exact BK575.out) hb); have n4_ := Aside0.mk (blk_below (g := gb581) (o := .cells #[.slice Ao15 t576.length co15] 31 (0, 0)) (by (with_reducible repeat (first | refine blk_drewN ?_ _ | refine blk_drew ?_ | refine blk_alloc ?_ _)); exact BK581.out) hb); have n5_ := Aside0.mk (below_step (by repeat (first | (with_reducible first | exact HB.out | apply below_alloc | apply pw_below_drewN | apply below_drew1 | refine below_set ?_ GE575.out | refine below_set ?_ GE581.out) | exact HB.out)) hb); clear HO571; clear HO574; clear HO578; clear BK575; clear BK581; clear HB; have HO571 := n0_; have HO574 := n1_; have HO578 := n2_; have BK575 := n3_; have BK581 := n4_; have HB := n5_; clear n0_ n1_ n2_ n3_ n4_ n5_; (try clear hb); (try clear hb2); (try clear hk); (try clear hi)))
                go_meet
                case rel => exact ⟨_, (true), (by first | rfl | (simp; done) | (simp [*]; done)), H', ⟨by first | omega | exact Nat.le_refl _⟩, ⟨by (with_reducible repeat (first | apply Kd.V_alloc | apply Kd.V_drewN | apply Kd.V_drew)); exact Kd.V_mono HO574.out (fun _ hk => ⟨hk.1.2, hk.2⟩)⟩, ⟨by (with_reducible repeat (first | apply Kd.V_alloc | apply Kd.V_drewN | apply Kd.V_drew)); exact Kd.V_mono HO571.out (fun _ hk => ⟨hk.1.2, hk.2⟩)⟩, ⟨by (with_reducible repeat (first | apply Kd.V_alloc | apply Kd.V_drewN | apply Kd.V_drew)); exact HO578.out⟩, ⟨by (with_reducible repeat (first | refine blk_drewN ?_ _ | refine blk_drew ?_ | refine blk_alloc ?_ _)); exact BK575.out⟩, ⟨by (with_reducible repeat (first | refine blk_drewN ?_ _ | refine blk_drew ?_ | refine blk_alloc ?_ _)); exact BK581.out⟩, ⟨by repeat (first | (with_reducible first | exact HB.out | apply below_alloc | apply pw_below_drewN | apply below_drew1 | refine below_set ?_ GE575.out | refine below_set ?_ GE581.out) | exact HB.out)⟩⟩
          · rw [if_neg c22] at H
            have c22b0 : (t582 == t583) = false := beq_eq_false_iff_ne.mpr c22
            have c22b1 : (t582 != t583) = true := bne_iff_ne.mpr c22
            have H' := Aside0.mk H
            clear H
            have hnb60 := NB575_581.out
            have hnc60 := NB581_575.out
            have hcz61_0 : w14.cell? ⟨gb575, 0, none⟩ = some (.slice Ao11 t569.length co11) := (blk_cell BK575.out 0).trans rfl
            have hfz61_0 := blk_frozen BK575.out 0
            go_wp2_with (first | (go_at_call 22; (with_reducible refine (nat_Nat_Bits.calls _ _ t569 t582 _ ?side1 ?side2 A20.out).mono ?_); (case side1 => refine (Kd.V_reads' (e := 27) (base := w.heap.size) (ok := fun k_ => ((True ∧ k_ ≠ gb575) ∧ k_ ≠ gb581)) (n := t569.length) (c := co11) ?_).2.2; exact (by (with_reducible repeat (first | apply Kd.V_alloc | apply Kd.V_drewN | apply Kd.V_drew)); exact (Kd.V_mono (Kd.V_far (p := ⟨gb581, 0, none⟩) (Kd.V_mono HO571.out (fun k_ hk => (⟨hk, hk.2⟩ : _ ∧ k_ ≠ gb581))) (fun _ hk => hk.2) (.slice Ao15 t576.length co15)) (fun _ h_ => h_.1)))); (case side2 => exact (Kd.V_reads' HO571.out).2.1); rintro e w62 ⟨rfl, hb⟩; have n0_ := Aside0.mk (Kd.V_below (by (with_reducible repeat (first | apply Kd.V_alloc | apply Kd.V_drewN | apply Kd.V_drew)); exact (Kd.V_mono (Kd.V_far (p := ⟨gb581, 0, none⟩) (Kd.V_mono HO571.out (fun k_ hk => (⟨hk, hk.2⟩ : _ ∧ k_ ≠ gb581))) (fun _ hk => hk.2) (.slice Ao15 t576.length co15)) (fun _ h_ => h_.1))) hb); have n1_ := Aside0.mk (Kd.V_below (by (with_reducible repeat (first | apply Kd.V_alloc | apply Kd.V_drewN | apply Kd.V_drew)); exact (Kd.V_mono (Kd.V_far (p := ⟨gb581, 0, none⟩) (Kd.V_mono HO574.out (fun k_ hk => (⟨hk, hk.2⟩ : _ ∧ k_ ≠ gb581))) (fun _ hk => hk.2) (.slice Ao15 t576.length co15)) (fun _ h_ => h_.1))) hb); have n2_ := Aside0.mk (Kd.V_below (by (with_reducible repeat (first | apply Kd.V_alloc | apply Kd.V_drewN | apply Kd.V_drew)); exact (Kd.V_mono (Kd.V_far (p := ⟨gb581, 0, none⟩) (Kd.V_mono HO578.out (fun k_ hk => (⟨hk, hk.2⟩ : _ ∧ k_ ≠ gb581))) (fun _ hk => hk.2) (.slice Ao15 t576.length co15)) (fun _ h_ => h_.1))) hb); have n3_ := Aside0.mk (blk_below (g := gb575) (o := .cells #[.slice Ao11 t569.length co11] 31 (0, 0)) (by (with_reducible repeat (first | refine blk_drewN ?_ _ | refine blk_drew ?_ | refine blk_alloc ?_ _)); refine blk_far ?_ NB575_581.out _; (with_reducible repeat (first | refine blk_drewN ?_ _ | refine blk_drew ?_ | refine blk_alloc ?_ _)); exact BK575.out) hb); have n4_ := Aside0.mk (blk_below (g := gb581) (o := .cells #[.slice Ao15 t576.length co15] 31 (0, 0)) (by (with_reducible repeat (first | refine blk_drewN ?_ _ | refine blk_drew ?_ | refine blk_alloc ?_ _)); refine blk_put (cs := #[.slice none 0 0]) ?_ 0 _ rfl; (with_reducible repeat (first | refine blk_drewN ?_ _ | refine blk_drew ?_ | refine blk_alloc ?_ _)); exact BK581.out) hb); have n5_ := Aside0.mk (below_step (by repeat (first | (with_reducible first | exact HB.out | apply below_alloc | apply pw_below_drewN | apply below_drew1 | refine below_set ?_ GE575.out | refine below_set ?_ GE581.out) | exact HB.out)) hb); clear HO571; clear HO574; clear HO578; clear BK575; clear BK581; clear HB; have HO571 := n0_; have HO574 := n1_; have HO578 := n2_; have BK575 := n3_; have BK581 := n4_; have HB := n5_; clear n0_ n1_ n2_ n3_ n4_ n5_; (try clear hb); (try clear hb2); (try clear hk); (try clear hi); obtain ⟨Ao63, co63, eo63⟩ := Kd.V_slice HO574.out; subst eo63) | (go_at_call 43; (with_reducible refine (coxswainref03_Bits.calls k (fun k_ => ((True ∧ k_ ≠ gb575) ∧ k_ ≠ gb581)) _ _ t572 t583 _ ?side1 A21.out).mono ?_); (case side1 => exact HO574.out); rintro e w64 ⟨rfl, hb⟩; have n0_ := Aside0.mk (Kd.V_below (by (with_reducible repeat (first | apply Kd.V_alloc | apply Kd.V_drewN | apply Kd.V_drew)); exact HO571.out) hb); have n1_ := Aside0.mk (Kd.V_below (by (with_reducible repeat (first | apply Kd.V_alloc | apply Kd.V_drewN | apply Kd.V_drew)); exact HO574.out) hb); have n2_ := Aside0.mk (Kd.V_below (by (with_reducible repeat (first | apply Kd.V_alloc | apply Kd.V_drewN | apply Kd.V_drew)); exact HO578.out) hb); have n3_ := Aside0.mk (blk_below (g := gb575) (o := .cells #[.slice Ao11 t569.length co11] 31 (0, 0)) (by (with_reducible repeat (first | refine blk_drewN ?_ _ | refine blk_drew ?_ | refine blk_alloc ?_ _)); exact BK575.out) hb); have n4_ := Aside0.mk (blk_below (g := gb581) (o := .cells #[.slice Ao15 t576.length co15] 31 (0, 0)) (by (with_reducible repeat (first | refine blk_drewN ?_ _ | refine blk_drew ?_ | refine blk_alloc ?_ _)); exact BK581.out) hb); have n5_ := Aside0.mk (below_step (by repeat (first | (with_reducible first | exact HB.out | apply below_alloc | apply pw_below_drewN | apply below_drew1 | refine below_set ?_ GE575.out | refine below_set ?_ GE581.out) | exact HB.out)) hb); clear HO571; clear HO574; clear HO578; clear BK575; clear BK581; clear HB; have HO571 := n0_; have HO574 := n1_; have HO578 := n2_; have BK575 := n3_; have BK581 := n4_; have HB := n5_; clear n0_ n1_ n2_ n3_ n4_ n5_; (try clear hb); (try clear hb2); (try clear hk); (try clear hi)))
            go_meet
            case rel => exact ⟨_, (true), (by first | rfl | (simp; done) | (simp [*]; done)), H', ⟨by first | omega | exact Nat.le_refl _⟩, ⟨by (with_reducible repeat (first | apply Kd.V_alloc | apply Kd.V_drewN | apply Kd.V_drew)); exact Kd.V_mono HO574.out (fun _ hk => ⟨hk.1.2, hk.2⟩)⟩, ⟨by (with_reducible repeat (first | apply Kd.V_alloc | apply Kd.V_drewN | apply Kd.V_drew)); exact Kd.V_mono HO571.out (fun _ hk => ⟨hk.1.2, hk.2⟩)⟩, ⟨by (with_reducible repeat (first | apply Kd.V_alloc | apply Kd.V_drewN | apply Kd.V_drew)); exact HO578.out⟩, ⟨by (with_reducible repeat (first | refine blk_drewN ?_ _ | refine blk_drew ?_ | refine blk_alloc ?_ _)); exact BK575.out⟩, ⟨by (with_reducible repeat (first | refine blk_drewN ?_ _ | refine blk_drew ?_ | refine blk_alloc ?_ _)); exact BK581.out⟩, ⟨by repeat (first | (with_reducible first | exact HB.out | apply below_alloc | apply pw_below_drewN | apply below_drew1 | refine below_set ?_ GE575.out | refine below_set ?_ GE581.out) | exact HB.out)⟩⟩
        · replace c19 := Bool.eq_false_iff.mpr c19
          subst c19
          have H1 : ((nat_Nat_Zero.f t576).bind fun t589 => (if t589 = true then (if t579 = 0 then ((nat_Nat_Bits.f t569).bind fun t590 => ((coxswainref03_Bits.f k t572).bind fun t591 => (if t590 = t591 then ((nat_Nat_Zero.f t569).bind fun t592 => (if (t592 != ((t572.length : Int) == 0)) = true then (coxswainlaw03_NatOne.j0 k a1 t572 t579 false true t569 t576) else ((nat_Nat_Bytes.f k t569).bind fun t593 => ((coxswainref03_Bytes.f k t572).bind fun t594 => (if t593.toList = t594.toList then ((nat_Nat_Text.f k t569).bind fun t595 => ((coxswainref03_Text.f k t572).bind fun t596 => (coxswainlaw03_NatOne.j0 k a1 t572 t579 false (t595.toList != t596.toList) t569 t576))) else (coxswainlaw03_NatOne.j0 k a1 t572 t579 false true t569 t576)))))) else (coxswainlaw03_NatOne.j0 k a1 t572 t579 false true t569 t576)))) else (coxswainlaw03_NatOne.j0 k a1 t572 t579 false true t569 t576)) else (coxswainlaw03_NatOne.j0 k a1 t572 t579 false true t569 t576))) = some r := by rw [if_neg (show ¬ (false = true) by decide)] at H; exact H
          clear H
          have H := H1
          clear H1
          replace H := Option.bind_eq_some_iff.mp H
          obtain ⟨t589, A650, H⟩ := H
          replace H : (if t589 = true then (if t579 = 0 then ((nat_Nat_Bits.f t569).bind fun t590 => ((coxswainref03_Bits.f k t572).bind fun t591 => (if t590 = t591 then ((nat_Nat_Zero.f t569).bind fun t592 => (if (t592 != ((t572.length : Int) == 0)) = true then (coxswainlaw03_NatOne.j0 k a1 t572 t579 false true t569 t576) else ((nat_Nat_Bytes.f k t569).bind fun t593 => ((coxswainref03_Bytes.f k t572).bind fun t594 => (if t593.toList = t594.toList then ((nat_Nat_Text.f k t569).bind fun t595 => ((coxswainref03_Text.f k t572).bind fun t596 => (coxswainlaw03_NatOne.j0 k a1 t572 t579 false (t595.toList != t596.toList) t569 t576))) else (coxswainlaw03_NatOne.j0 k a1 t572 t579 false true t569 t576)))))) else (coxswainlaw03_NatOne.j0 k a1 t572 t579 false true t569 t576)))) else (coxswainlaw03_NatOne.j0 k a1 t572 t579 false true t569 t576)) else (coxswainlaw03_NatOne.j0 k a1 t572 t579 false true t569 t576)) = some r := H
          have A65 := Aside0.mk A650
          clear A650
          by_cases c66 : t589 = true
          · subst c66
            have H1 : (if t579 = 0 then ((nat_Nat_Bits.f t569).bind fun t590 => ((coxswainref03_Bits.f k t572).bind fun t591 => (if t590 = t591 then ((nat_Nat_Zero.f t569).bind fun t592 => (if (t592 != ((t572.length : Int) == 0)) = true then (coxswainlaw03_NatOne.j0 k a1 t572 t579 false true t569 t576) else ((nat_Nat_Bytes.f k t569).bind fun t593 => ((coxswainref03_Bytes.f k t572).bind fun t594 => (if t593.toList = t594.toList then ((nat_Nat_Text.f k t569).bind fun t595 => ((coxswainref03_Text.f k t572).bind fun t596 => (coxswainlaw03_NatOne.j0 k a1 t572 t579 false (t595.toList != t596.toList) t569 t576))) else (coxswainlaw03_NatOne.j0 k a1 t572 t579 false true t569 t576)))))) else (coxswainlaw03_NatOne.j0 k a1 t572 t579 false true t569 t576)))) else (coxswainlaw03_NatOne.j0 k a1 t572 t579 false true t569 t576)) = some r := by rw [if_pos rfl] at H; exact H
            clear H
            have H := H1
            clear H1
            by_cases c67 : t579 = 0
            · rw [if_pos c67] at H
              have c67b0 : (t579 == 0) = true := beq_iff_eq.mpr c67
              have c67b1 : (t579 != 0) = false := bne_eq_false_iff_eq.mpr c67
              clear c67
              replace H := Option.bind_eq_some_iff.mp H
              obtain ⟨t590, A680, H⟩ := H
              replace H : ((coxswainref03_Bits.f k t572).bind fun t591 => (if t590 = t591 then ((nat_Nat_Zero.f t569).bind fun t592 => (if (t592 != ((t572.length : Int) == 0)) = true then (coxswainlaw03_NatOne.j0 k a1 t572 t579 false true t569 t576) else ((nat_Nat_Bytes.f k t569).bind fun t593 => ((coxswainref03_Bytes.f k t572).bind fun t594 => (if t593.toList = t594.toList then ((nat_Nat_Text.f k t569).bind fun t595 => ((coxswainref03_Text.f k t572).bind fun t596 => (coxswainlaw03_NatOne.j0 k a1 t572 t579 false (t595.toList != t596.toList) t569 t576))) else (coxswainlaw03_NatOne.j0 k a1 t572 t579 false true t569 t576)))))) else (coxswainlaw03_NatOne.j0 k a1 t572 t579 false true t569 t576))) = some r := H
              have A68 := Aside0.mk A680
              clear A680
              replace H := Option.bind_eq_some_iff.mp H
              obtain ⟨t591, A690, H⟩ := H
              replace H : (if t590 = t591 then ((nat_Nat_Zero.f t569).bind fun t592 => (if (t592 != ((t572.length : Int) == 0)) = true then (coxswainlaw03_NatOne.j0 k a1 t572 t579 false true t569 t576) else ((nat_Nat_Bytes.f k t569).bind fun t593 => ((coxswainref03_Bytes.f k t572).bind fun t594 => (if t593.toList = t594.toList then ((nat_Nat_Text.f k t569).bind fun t595 => ((coxswainref03_Text.f k t572).bind fun t596 => (coxswainlaw03_NatOne.j0 k a1 t572 t579 false (t595.toList != t596.toList) t569 t576))) else (coxswainlaw03_NatOne.j0 k a1 t572 t579 false true t569 t576)))))) else (coxswainlaw03_NatOne.j0 k a1 t572 t579 false true t569 t576)) = some r := H
              have A69 := Aside0.mk A690
              clear A690
              by_cases c70 : t590 = t591
              · rw [if_pos c70] at H
                have c70b0 : (t590 == t591) = true := beq_iff_eq.mpr c70
                have c70b1 : (t590 != t591) = false := bne_eq_false_iff_eq.mpr c70
                clear c70
                replace H := Option.bind_eq_some_iff.mp H
                obtain ⟨t592, A710, H⟩ := H
                replace H : (if (t592 != ((t572.length : Int) == 0)) = true then (coxswainlaw03_NatOne.j0 k a1 t572 t579 false true t569 t576) else ((nat_Nat_Bytes.f k t569).bind fun t593 => ((coxswainref03_Bytes.f k t572).bind fun t594 => (if t593.toList = t594.toList then ((nat_Nat_Text.f k t569).bind fun t595 => ((coxswainref03_Text.f k t572).bind fun t596 => (coxswainlaw03_NatOne.j0 k a1 t572 t579 false (t595.toList != t596.toList) t569 t576))) else (coxswainlaw03_NatOne.j0 k a1 t572 t579 false true t569 t576))))) = some r := H
                have A71 := Aside0.mk A710
                clear A710
                by_cases c72 : (t592 != ((t572.length : Int) == 0)) = true
                · rw [if_pos c72] at H
                  have c72b0 : (t592 != ((t572.length : Int) == 0)) = true := c72
                  (try (have c72b1 : decide (t592 = ((t572.length : Int) == 0)) = false := by simpa using c72))
                  (try (have c72b2 : (t592 == ((t572.length : Int) == 0)) = false := by simpa using c72))
                  (try (have c72b3 : ¬ (t592 = ((t572.length : Int) == 0)) := by simpa using c72))
                  clear c72
                  have H' := Aside0.mk H
                  clear H
                  have hnb73 := NB581_575.out
                  have hnc73 := NB575_581.out
                  have hcz74_0 : w14.cell? ⟨gb581, 0, none⟩ = some (.slice none 0 0) := (blk_cell BK581.out 0).trans rfl
                  have hfz74_0 := blk_frozen BK581.out 0
                  go_wp2_with (first | (go_at_call 24; (with_reducible refine (nat_Nat_Zero.calls _ _ t576 true _ ?side1 ?side2 A65.out).mono ?_); (case side1 => refine (Kd.V_reads' (e := 27) (base := w.heap.size) (ok := fun k_ => (k_ ≠ gb575 ∧ k_ ≠ gb581)) (n := t576.length) (c := co15) ?_).2.2; exact (by (with_reducible repeat (first | apply Kd.V_alloc | apply Kd.V_drewN | apply Kd.V_drew)); exact (Kd.V_mono (Kd.V_far (p := ⟨gb581, 0, none⟩) (Kd.V_mono HO578.out (fun k_ hk => (⟨hk, hk.2⟩ : _ ∧ k_ ≠ gb581))) (fun _ hk => hk.2) (.slice Ao15 t576.length co15)) (fun _ h_ => h_.1)))); (case side2 => exact (Kd.V_reads' HO578.out).2.1); rintro e w75 ⟨rfl, hb⟩; have n0_ := Aside0.mk (Kd.V_below (by (with_reducible repeat (first | apply Kd.V_alloc | apply Kd.V_drewN | apply Kd.V_drew)); exact (Kd.V_mono (Kd.V_far (p := ⟨gb581, 0, none⟩) (Kd.V_mono HO571.out (fun k_ hk => (⟨hk, hk.2⟩ : _ ∧ k_ ≠ gb581))) (fun _ hk => hk.2) (.slice Ao15 t576.length co15)) (fun _ h_ => h_.1))) hb); have n1_ := Aside0.mk (Kd.V_below (by (with_reducible repeat (first | apply Kd.V_alloc | apply Kd.V_drewN | apply Kd.V_drew)); exact (Kd.V_mono (Kd.V_far (p := ⟨gb581, 0, none⟩) (Kd.V_mono HO574.out (fun k_ hk => (⟨hk, hk.2⟩ : _ ∧ k_ ≠ gb581))) (fun _ hk => hk.2) (.slice Ao15 t576.length co15)) (fun _ h_ => h_.1))) hb); have n2_ := Aside0.mk (Kd.V_below (by (with_reducible repeat (first | apply Kd.V_alloc | apply Kd.V_drewN | apply Kd.V_drew)); exact (Kd.V_mono (Kd.V_far (p := ⟨gb581, 0, none⟩) (Kd.V_mono HO578.out (fun k_ hk => (⟨hk, hk.2⟩ : _ ∧ k_ ≠ gb581))) (fun _ hk => hk.2) (.slice Ao15 t576.length co15)) (fun _ h_ => h_.1))) hb); have n3_ := Aside0.mk (blk_below (g := gb575) (o := .cells #[.slice Ao11 t569.length co11] 31 (0, 0)) (by (with_reducible repeat (first | refine blk_drewN ?_ _ | refine blk_drew ?_ | refine blk_alloc ?_ _)); refine blk_far ?_ NB575_581.out _; (with_reducible repeat (first | refine blk_drewN ?_ _ | refine blk_drew ?_ | refine blk_alloc ?_ _)); exact BK575.out) hb); have n4_ := Aside0.mk (blk_below (g := gb581) (o := .cells #[.slice Ao15 t576.length co15] 31 (0, 0)) (by (with_reducible repeat (first | refine blk_drewN ?_ _ | refine blk_drew ?_ | refine blk_alloc ?_ _)); refine blk_put (cs := #[.slice none 0 0]) ?_ 0 _ rfl; (with_reducible repeat (first | refine blk_drewN ?_ _ | refine blk_drew ?_ | refine blk_alloc ?_ _)); exact BK581.out) hb); have n5_ := Aside0.mk (below_step (by repeat (first | (with_reducible first | exact HB.out | apply below_alloc | apply pw_below_drewN | apply below_drew1 | refine below_set ?_ GE575.out | refine below_set ?_ GE581.out) | exact HB.out)) hb); clear HO571; clear HO574; clear HO578; clear BK575; clear BK581; clear HB; have HO571 := n0_; have HO574 := n1_; have HO578 := n2_; have BK575 := n3_; have BK581 := n4_; have HB := n5_; clear n0_ n1_ n2_ n3_ n4_ n5_; (try clear hb); (try clear hb2); (try clear hk); (try clear hi); have hcz76_0 : w75.cell? ⟨gb575, 0, none⟩ = some (.slice Ao11 t569.length co11) := (blk_cell BK575.out 0).trans rfl; have hfz76_0 := blk_frozen BK575.out 0) | (go_at_call 22; (with_reducible refine (nat_Nat_Bits.calls _ _ t569 t590 _ ?side1 ?side2 A68.out).mono ?_); (case side1 => repeat (first | exact (Kd.V_reads' HO571.out).2.2 | (with_reducible refine Kd.C_alloc ?_ _) | (with_reducible refine Kd.C_drewN ?_ _) | (with_reducible refine Kd.C_drew ?_))); (case side2 => exact (Kd.V_reads' HO571.out).2.1); rintro e w77 ⟨rfl, hb⟩; have n0_ := Aside0.mk (Kd.V_below (by (with_reducible repeat (first | apply Kd.V_alloc | apply Kd.V_drewN | apply Kd.V_drew)); exact HO571.out) hb); have n1_ := Aside0.mk (Kd.V_below (by (with_reducible repeat (first | apply Kd.V_alloc | apply Kd.V_drewN | apply Kd.V_drew)); exact HO574.out) hb); have n2_ := Aside0.mk (Kd.V_below (by (with_reducible repeat (first | apply Kd.V_alloc | apply Kd.V_drewN | apply Kd.V_drew)); exact HO578.out) hb); have n3_ := Aside0.mk (blk_below (g := gb575) (o := .cells #[.slice Ao11 t569.length co11] 31 (0, 0)) (by (with_reducible repeat (first | refine blk_drewN ?_ _ | refine blk_drew ?_ | refine blk_alloc ?_ _)); exact BK575.out) hb); have n4_ := Aside0.mk (blk_below (g := gb581) (o := .cells #[.slice Ao15 t576.length co15] 31 (0, 0)) (by (with_reducible repeat (first | refine blk_drewN ?_ _ | refine blk_drew ?_ | refine blk_alloc ?_ _)); exact BK581.out) hb); have n5_ := Aside0.mk (below_step (by repeat (first | (with_reducible first | exact HB.out | apply below_alloc | apply pw_below_drewN | apply below_drew1 | refine below_set ?_ GE575.out | refine below_set ?_ GE581.out) | exact HB.out)) hb); clear HO571; clear HO574; clear HO578; clear BK575; clear BK581; clear HB; have HO571 := n0_; have HO574 := n1_; have HO578 := n2_; have BK575 := n3_; have BK581 := n4_; have HB := n5_; clear n0_ n1_ n2_ n3_ n4_ n5_; (try clear hb); (try clear hb2); (try clear hk); (try clear hi); obtain ⟨Ao78, co78, eo78⟩ := Kd.V_slice HO574.out; subst eo78) | (go_at_call 43; (with_reducible refine (coxswainref03_Bits.calls k (fun k_ => ((True ∧ k_ ≠ gb575) ∧ k_ ≠ gb581)) _ _ t572 t591 _ ?side1 A69.out).mono ?_); (case side1 => exact HO574.out); rintro e w79 ⟨rfl, hb⟩; have n0_ := Aside0.mk (Kd.V_below (by (with_reducible repeat (first | apply Kd.V_alloc | apply Kd.V_drewN | apply Kd.V_drew)); exact HO571.out) hb); have n1_ := Aside0.mk (Kd.V_below (by (with_reducible repeat (first | apply Kd.V_alloc | apply Kd.V_drewN | apply Kd.V_drew)); exact HO574.out) hb); have n2_ := Aside0.mk (Kd.V_below (by (with_reducible repeat (first | apply Kd.V_alloc | apply Kd.V_drewN | apply Kd.V_drew)); exact HO578.out) hb); have n3_ := Aside0.mk (blk_below (g := gb575) (o := .cells #[.slice Ao11 t569.length co11] 31 (0, 0)) (by (with_reducible repeat (first | refine blk_drewN ?_ _ | refine blk_drew ?_ | refine blk_alloc ?_ _)); exact BK575.out) hb); have n4_ := Aside0.mk (blk_below (g := gb581) (o := .cells #[.slice Ao15 t576.length co15] 31 (0, 0)) (by (with_reducible repeat (first | refine blk_drewN ?_ _ | refine blk_drew ?_ | refine blk_alloc ?_ _)); exact BK581.out) hb); have n5_ := Aside0.mk (below_step (by repeat (first | (with_reducible first | exact HB.out | apply below_alloc | apply pw_below_drewN | apply below_drew1 | refine below_set ?_ GE575.out | refine below_set ?_ GE581.out) | exact HB.out)) hb); clear HO571; clear HO574; clear HO578; clear BK575; clear BK581; clear HB; have HO571 := n0_; have HO574 := n1_; have HO578 := n2_; have BK575 := n3_; have BK581 := n4_; have HB := n5_; clear n0_ n1_ n2_ n3_ n4_ n5_; (try clear hb); (try clear hb2); (try clear hk); (try clear hi); have hcz80_0 : w79.cell? ⟨gb575, 0, none⟩ = some (.slice Ao11 t569.length co11) := (blk_cell BK575.out 0).trans rfl; have hfz80_0 := blk_frozen BK575.out 0) | (go_at_call 24; (with_reducible refine (nat_Nat_Zero.calls _ _ t569 t592 _ ?side1 ?side2 A71.out).mono ?_); (case side1 => repeat (first | exact (Kd.V_reads' HO571.out).2.2 | (with_reducible refine Kd.C_alloc ?_ _) | (with_reducible refine Kd.C_drewN ?_ _) | (with_reducible refine Kd.C_drew ?_))); (case side2 => exact (Kd.V_reads' HO571.out).2.1); rintro e w81 ⟨rfl, hb⟩; have n0_ := Aside0.mk (Kd.V_below (by (with_reducible repeat (first | apply Kd.V_alloc | apply Kd.V_drewN | apply Kd.V_drew)); exact HO571.out) hb); have n1_ := Aside0.mk (Kd.V_below (by (with_reducible repeat (first | apply Kd.V_alloc | apply Kd.V_drewN | apply Kd.V_drew)); exact HO574.out) hb); have n2_ := Aside0.mk (Kd.V_below (by (with_reducible repeat (first | apply Kd.V_alloc | apply Kd.V_drewN | apply Kd.V_drew)); exact HO578.out) hb); have n3_ := Aside0.mk (blk_below (g := gb575) (o := .cells #[.slice Ao11 t569.length co11] 31 (0, 0)) (by (with_reducible repeat (first | refine blk_drewN ?_ _ | refine blk_drew ?_ | refine blk_alloc ?_ _)); exact BK575.out) hb); have n4_ := Aside0.mk (blk_below (g := gb581) (o := .cells #[.slice Ao15 t576.length co15] 31 (0, 0)) (by (with_reducible repeat (first | refine blk_drewN ?_ _ | refine blk_drew ?_ | refine blk_alloc ?_ _)); exact BK581.out) hb); have n5_ := Aside0.mk (below_step (by repeat (first | (with_reducible first | exact HB.out | apply below_alloc | apply pw_below_drewN | apply below_drew1 | refine below_set ?_ GE575.out | refine below_set ?_ GE581.out) | exact HB.out)) hb); clear HO571; clear HO574; clear HO578; clear BK575; clear BK581; clear HB; have HO571 := n0_; have HO574 := n1_; have HO578 := n2_; have BK575 := n3_; have BK581 := n4_; have HB := n5_; clear n0_ n1_ n2_ n3_ n4_ n5_; (try clear hb); (try clear hb2); (try clear hk); (try clear hi)))
                  go_meet
                  case rel => exact ⟨_, (true), (by first | rfl | (simp; done) | (simp [*]; done)), H', ⟨by first | omega | exact Nat.le_refl _⟩, ⟨by (with_reducible repeat (first | apply Kd.V_alloc | apply Kd.V_drewN | apply Kd.V_drew)); exact Kd.V_mono HO574.out (fun _ hk => ⟨hk.1.2, hk.2⟩)⟩, ⟨by (with_reducible repeat (first | apply Kd.V_alloc | apply Kd.V_drewN | apply Kd.V_drew)); exact Kd.V_mono HO571.out (fun _ hk => ⟨hk.1.2, hk.2⟩)⟩, ⟨by (with_reducible repeat (first | apply Kd.V_alloc | apply Kd.V_drewN | apply Kd.V_drew)); exact HO578.out⟩, ⟨by (with_reducible repeat (first | refine blk_drewN ?_ _ | refine blk_drew ?_ | refine blk_alloc ?_ _)); exact BK575.out⟩, ⟨by (with_reducible repeat (first | refine blk_drewN ?_ _ | refine blk_drew ?_ | refine blk_alloc ?_ _)); exact BK581.out⟩, ⟨by repeat (first | (with_reducible first | exact HB.out | apply below_alloc | apply pw_below_drewN | apply below_drew1 | refine below_set ?_ GE575.out | refine below_set ?_ GE581.out) | exact HB.out)⟩⟩
                · rw [if_neg c72] at H
                  have c72b0 : (t592 != ((t572.length : Int) == 0)) = false := by simpa using c72
                  (try (have c72b1 : decide (t592 = ((t572.length : Int) == 0)) = true := by simpa using c72))
                  (try (have c72b2 : (t592 == ((t572.length : Int) == 0)) = true := by simpa using c72))
                  clear c72
                  replace H := Option.bind_eq_some_iff.mp H
                  obtain ⟨t593, A820, H⟩ := H
                  replace H : ((coxswainref03_Bytes.f k t572).bind fun t594 => (if t593.toList = t594.toList then ((nat_Nat_Text.f k t569).bind fun t595 => ((coxswainref03_Text.f k t572).bind fun t596 => (coxswainlaw03_NatOne.j0 k a1 t572 t579 false (t595.toList != t596.toList) t569 t576))) else (coxswainlaw03_NatOne.j0 k a1 t572 t579 false true t569 t576))) = some r := H
                  have A82 := Aside0.mk A820
                  clear A820
                  replace H := Option.bind_eq_some_iff.mp H
                  obtain ⟨t594, A830, H⟩ := H
                  replace H : (if t593.toList = t594.toList then ((nat_Nat_Text.f k t569).bind fun t595 => ((coxswainref03_Text.f k t572).bind fun t596 => (coxswainlaw03_NatOne.j0 k a1 t572 t579 false (t595.toList != t596.toList) t569 t576))) else (coxswainlaw03_NatOne.j0 k a1 t572 t579 false true t569 t576)) = some r := H
                  have A83 := Aside0.mk A830
                  clear A830
                  by_cases c84 : t593.toList = t594.toList
                  · rw [if_pos c84] at H
                    have c84b0 : (t593.toList == t594.toList) = true := beq_iff_eq.mpr c84
                    have c84b1 : (t593.toList != t594.toList) = false := bne_eq_false_iff_eq.mpr c84
                    clear c84
                    replace H := Option.bind_eq_some_iff.mp H
                    obtain ⟨t595, A850, H⟩ := H
                    replace H : ((coxswainref03_Text.f k t572).bind fun t596 => (coxswainlaw03_NatOne.j0 k a1 t572 t579 false (t595.toList != t596.toList) t569 t576)) = some r := H
                    have A85 := Aside0.mk A850
                    clear A850
                    replace H := Option.bind_eq_some_iff.mp H
                    obtain ⟨t596, A860, H⟩ := H
                    replace H : (coxswainlaw03_NatOne.j0 k a1 t572 t579 false (t595.toList != t596.toList) t569 t576) = some r := H
                    have A86 := Aside0.mk A860
                    clear A860
                    have H' := Aside0.mk H
                    clear H
                    have hnb87 := NB581_575.out
                    have hnc87 := NB575_581.out
                    have hcz88_0 : w14.cell? ⟨gb581, 0, none⟩ = some (.slice none 0 0) := (blk_cell BK581.out 0).trans rfl
                    have hfz88_0 := blk_frozen BK581.out 0
                    go_wp2_with (first | (go_at_call 24; (with_reducible refine (nat_Nat_Zero.calls _ _ t576 true _ ?side1 ?side2 A65.out).mono ?_); (case side1 => refine (Kd.V_reads' (e := 27) (base := w.heap.size) (ok := fun k_ => (k_ ≠ gb575 ∧ k_ ≠ gb581)) (n := t576.length) (c := co15) ?_).2.2; exact (by (with_reducible repeat (first | apply Kd.V_alloc | apply Kd.V_drewN | apply Kd.V_drew)); exact (Kd.V_mono (Kd.V_far (p := ⟨gb581, 0, none⟩) (Kd.V_mono HO578.out (fun k_ hk => (⟨hk, hk.2⟩ : _ ∧ k_ ≠ gb581))) (fun _ hk => hk.2) (.slice Ao15 t576.length co15)) (fun _ h_ => h_.1)))); (case side2 => exact (Kd.V_reads' HO578.out).2.1); rintro e w89 ⟨rfl, hb⟩; have n0_ := Aside0.mk (Kd.V_below (by (with_reducible repeat (first | apply Kd.V_alloc | apply Kd.V_drewN | apply Kd.V_drew)); exact (Kd.V_mono (Kd.V_far (p := ⟨gb581, 0, none⟩) (Kd.V_mono HO571.out (fun k_ hk => (⟨hk, hk.2⟩ : _ ∧ k_ ≠ gb581))) (fun _ hk => hk.2) (.slice Ao15 t576.length co15)) (fun _ h_ => h_.1))) hb); have n1_ := Aside0.mk (Kd.V_below (by (with_reducible repeat (first | apply Kd.V_alloc | apply Kd.V_drewN | apply Kd.V_drew)); exact (Kd.V_mono (Kd.V_far (p := ⟨gb581, 0, none⟩) (Kd.V_mono HO574.out (fun k_ hk => (⟨hk, hk.2⟩ : _ ∧ k_ ≠ gb581))) (fun _ hk => hk.2) (.slice Ao15 t576.length co15)) (fun _ h_ => h_.1))) hb); have n2_ := Aside0.mk (Kd.V_below (by (with_reducible repeat (first | apply Kd.V_alloc | apply Kd.V_drewN | apply Kd.V_drew)); exact (Kd.V_mono (Kd.V_far (p := ⟨gb581, 0, none⟩) (Kd.V_mono HO578.out (fun k_ hk => (⟨hk, hk.2⟩ : _ ∧ k_ ≠ gb581))) (fun _ hk => hk.2) (.slice Ao15 t576.length co15)) (fun _ h_ => h_.1))) hb); have n3_ := Aside0.mk (blk_below (g := gb575) (o := .cells #[.slice Ao11 t569.length co11] 31 (0, 0)) (by (with_reducible repeat (first | refine blk_drewN ?_ _ | refine blk_drew ?_ | refine blk_alloc ?_ _)); refine blk_far ?_ NB575_581.out _; (with_reducible repeat (first | refine blk_drewN ?_ _ | refine blk_drew ?_ | refine blk_alloc ?_ _)); exact BK575.out) hb); have n4_ := Aside0.mk (blk_below (g := gb581) (o := .cells #[.slice Ao15 t576.length co15] 31 (0, 0)) (by (with_reducible repeat (first | refine blk_drewN ?_ _ | refine blk_drew ?_ | refine blk_alloc ?_ _)); refine blk_put (cs := #[.slice none 0 0]) ?_ 0 _ rfl; (with_reducible repeat (first | refine blk_drewN ?_ _ | refine blk_drew ?_ | refine blk_alloc ?_ _)); exact BK581.out) hb); have n5_ := Aside0.mk (below_step (by repeat (first | (with_reducible first | exact HB.out | apply below_alloc | apply pw_below_drewN | apply below_drew1 | refine below_set ?_ GE575.out | refine below_set ?_ GE581.out) | exact HB.out)) hb); clear HO571; clear HO574; clear HO578; clear BK575; clear BK581; clear HB; have HO571 := n0_; have HO574 := n1_; have HO578 := n2_; have BK575 := n3_; have BK581 := n4_; have HB := n5_; clear n0_ n1_ n2_ n3_ n4_ n5_; (try clear hb); (try clear hb2); (try clear hk); (try clear hi); have hcz90_0 : w89.cell? ⟨gb575, 0, none⟩ = some (.slice Ao11 t569.length co11) := (blk_cell BK575.out 0).trans rfl; have hfz90_0 := blk_frozen BK575.out 0) | (go_at_call 22; (with_reducible refine (nat_Nat_Bits.calls _ _ t569 t590 _ ?side1 ?side2 A68.out).mono ?_); (case side1 => repeat (first | exact (Kd.V_reads' HO571.out).2.2 | (with_reducible refine Kd.C_alloc ?_ _) | (with_reducible refine Kd.C_drewN ?_ _) | (with_reducible refine Kd.C_drew ?_))); (case side2 => exact (Kd.V_reads' HO571.out).2.1); rintro e w91 ⟨rfl, hb⟩; have n0_ := Aside0.mk (Kd.V_below (by (with_reducible repeat (first | apply Kd.V_alloc | apply Kd.V_drewN | apply Kd.V_drew)); exact HO571.out) hb); have n1_ := Aside0.mk (Kd.V_below (by (with_reducible repeat (first | apply Kd.V_alloc | apply Kd.V_drewN | apply Kd.V_drew)); exact HO574.out) hb); have n2_ := Aside0.mk (Kd.V_below (by (with_reducible repeat (first | apply Kd.V_alloc | apply Kd.V_drewN | apply Kd.V_drew)); exact HO578.out) hb); have n3_ := Aside0.mk (blk_below (g := gb575) (o := .cells #[.slice Ao11 t569.length co11] 31 (0, 0)) (by (with_reducible repeat (first | refine blk_drewN ?_ _ | refine blk_drew ?_ | refine blk_alloc ?_ _)); exact BK575.out) hb); have n4_ := Aside0.mk (blk_below (g := gb581) (o := .cells #[.slice Ao15 t576.length co15] 31 (0, 0)) (by (with_reducible repeat (first | refine blk_drewN ?_ _ | refine blk_drew ?_ | refine blk_alloc ?_ _)); exact BK581.out) hb); have n5_ := Aside0.mk (below_step (by repeat (first | (with_reducible first | exact HB.out | apply below_alloc | apply pw_below_drewN | apply below_drew1 | refine below_set ?_ GE575.out | refine below_set ?_ GE581.out) | exact HB.out)) hb); clear HO571; clear HO574; clear HO578; clear BK575; clear BK581; clear HB; have HO571 := n0_; have HO574 := n1_; have HO578 := n2_; have BK575 := n3_; have BK581 := n4_; have HB := n5_; clear n0_ n1_ n2_ n3_ n4_ n5_; (try clear hb); (try clear hb2); (try clear hk); (try clear hi); obtain ⟨Ao92, co92, eo92⟩ := Kd.V_slice HO574.out; subst eo92) | (go_at_call 43; (with_reducible refine (coxswainref03_Bits.calls k (fun k_ => ((True ∧ k_ ≠ gb575) ∧ k_ ≠ gb581)) _ _ t572 t591 _ ?side1 A69.out).mono ?_); (case side1 => exact HO574.out); rintro e w93 ⟨rfl, hb⟩; have n0_ := Aside0.mk (Kd.V_below (by (with_reducible repeat (first | apply Kd.V_alloc | apply Kd.V_drewN | apply Kd.V_drew)); exact HO571.out) hb); have n1_ := Aside0.mk (Kd.V_below (by (with_reducible repeat (first | apply Kd.V_alloc | apply Kd.V_drewN | apply Kd.V_drew)); exact HO574.out) hb); have n2_ := Aside0.mk (Kd.V_below (by (with_reducible repeat (first | apply Kd.V_alloc | apply Kd.V_drewN | apply Kd.V_drew)); exact HO578.out) hb); have n3_ := Aside0.mk (blk_below (g := gb575) (o := .cells #[.slice Ao11 t569.length co11] 31 (0, 0)) (by (with_reducible repeat (first | refine blk_drewN ?_ _ | refine blk_drew ?_ | refine blk_alloc ?_ _)); exact BK575.out) hb); have n4_ := Aside0.mk (blk_below (g := gb581) (o := .cells #[.slice Ao15 t576.length co15] 31 (0, 0)) (by (with_reducible repeat (first | refine blk_drewN ?_ _ | refine blk_drew ?_ | refine blk_alloc ?_ _)); exact BK581.out) hb); have n5_ := Aside0.mk (below_step (by repeat (first | (with_reducible first | exact HB.out | apply below_alloc | apply pw_below_drewN | apply below_drew1 | refine below_set ?_ GE575.out | refine below_set ?_ GE581.out) | exact HB.out)) hb); clear HO571; clear HO574; clear HO578; clear BK575; clear BK581; clear HB; have HO571 := n0_; have HO574 := n1_; have HO578 := n2_; have BK575 := n3_; have BK581 := n4_; have HB := n5_; clear n0_ n1_ n2_ n3_ n4_ n5_; (try clear hb); (try clear hb2); (try clear hk); (try clear hi); have hcz94_0 : w93.cell? ⟨gb575, 0, none⟩ = some (.slice Ao11 t569.length co11) := (blk_cell BK575.out 0).trans rfl; have hfz94_0 := blk_frozen BK575.out 0) | (go_at_call 24; (with_reducible refine (nat_Nat_Zero.calls _ _ t569 t592 _ ?side1 ?side2 A71.out).mono ?_); (case side1 => repeat (first | exact (Kd.V_reads' HO571.out).2.2 | (with_reducible refine Kd.C_alloc ?_ _) | (with_reducible refine Kd.C_drewN ?_ _) | (with_reducible refine Kd.C_drew ?_))); (case side2 => exact (Kd.V_reads' HO571.out).2.1); rintro e w95 ⟨rfl, hb⟩; have n0_ := Aside0.mk (Kd.V_below (by (with_reducible repeat (first | apply Kd.V_alloc | apply Kd.V_drewN | apply Kd.V_drew)); exact HO571.out) hb); have n1_ := Aside0.mk (Kd.V_below (by (with_reducible repeat (first | apply Kd.V_alloc | apply Kd.V_drewN | apply Kd.V_drew)); exact HO574.out) hb); have n2_ := Aside0.mk (Kd.V_below (by (with_reducible repeat (first | apply Kd.V_alloc | apply Kd.V_drewN | apply Kd.V_drew)); exact HO578.out) hb); have n3_ := Aside0.mk (blk_below (g := gb575) (o := .cells #[.slice Ao11 t569.length co11] 31 (0, 0)) (by (with_reducible repeat (first | refine blk_drewN ?_ _ | refine blk_drew ?_ | refine blk_alloc ?_ _)); exact BK575.out) hb); have n4_ := Aside0.mk (blk_below (g := gb581) (o := .cells #[.slice Ao15 t576.length co15] 31 (0, 0)) (by (with_reducible repeat (first | refine blk_drewN ?_ _ | refine blk_drew ?_ | refine blk_alloc ?_ _)); exact BK581.out) hb); have n5_ := Aside0.mk (below_step (by repeat (first | (with_reducible first | exact HB.out | apply below_alloc | apply pw_below_drewN | apply below_drew1 | refine below_set ?_ GE575.out | refine below_set ?_ GE581.out) | exact HB.out)) hb); clear HO571; clear HO574; clear HO578; clear BK575; clear BK581; clear HB; have HO571 := n0_; have HO574 := n1_; have HO578 := n2_; have BK575 := n3_; have BK581 := n4_; have HB := n5_; clear n0_ n1_ n2_ n3_ n4_ n5_; (try clear hb); (try clear hb2); (try clear hk); (try clear hi); have hcz96_0 : w95.cell? ⟨gb575, 0, none⟩ = some (.slice Ao11 t569.length co11) := (blk_cell BK575.out 0).trans rfl; have hfz96_0 := blk_frozen BK575.out 0) | (go_at_call 41; (with_reducible refine (nat_Nat_Bytes.calls k _ _ t569 t593 _ ?side1 ?side2 A82.out).mono ?_); (case side1 => repeat (first | exact (Kd.V_reads' HO571.out).2.2 | (with_reducible refine Kd.C_alloc ?_ _) | (with_reducible refine Kd.C_drewN ?_ _) | (with_reducible refine Kd.C_drew ?_))); (case side2 => exact (Kd.V_reads' HO571.out).2.1); rintro e w97 ⟨rfl, hb⟩; have n0_ := Aside0.mk (Kd.V_below (by (with_reducible repeat (first | apply Kd.V_alloc | apply Kd.V_drewN | apply Kd.V_drew)); exact HO571.out) hb); have n1_ := Aside0.mk (Kd.V_below (by (with_reducible repeat (first | apply Kd.V_alloc | apply Kd.V_drewN | apply Kd.V_drew)); exact HO574.out) hb); have n2_ := Aside0.mk (Kd.V_below (by (with_reducible repeat (first | apply Kd.V_alloc | apply Kd.V_drewN | apply Kd.V_drew)); exact HO578.out) hb); have n3_ := Aside0.mk (blk_below (g := gb575) (o := .cells #[.slice Ao11 t569.length co11] 31 (0, 0)) (by (with_reducible repeat (first | refine blk_drewN ?_ _ | refine blk_drew ?_ | refine blk_alloc ?_ _)); exact BK575.out) hb); have n4_ := Aside0.mk (blk_below (g := gb581) (o := .cells #[.slice Ao15 t576.length co15] 31 (0, 0)) (by (with_reducible repeat (first | refine blk_drewN ?_ _ | refine blk_drew ?_ | refine blk_alloc ?_ _)); exact BK581.out) hb); have n5_ := Aside0.mk (below_step (by repeat (first | (with_reducible first | exact HB.out | apply below_alloc | apply pw_below_drewN | apply below_drew1 | refine below_set ?_ GE575.out | refine below_set ?_ GE581.out) | exact HB.out)) hb); clear HO571; clear HO574; clear HO578; clear BK575; clear BK581; clear HB; have HO571 := n0_; have HO574 := n1_; have HO578 := n2_; have BK575 := n3_; have BK581 := n4_; have HB := n5_; clear n0_ n1_ n2_ n3_ n4_ n5_; (try clear hb); (try clear hb2); (try clear hk); (try clear hi)) | (go_at_call 44; (with_reducible refine (coxswainref03_Bytes.calls k (fun k_ => ((True ∧ k_ ≠ gb575) ∧ k_ ≠ gb581)) _ _ t572 t594 _ ?side1 A83.out).mono ?_); (case side1 => exact HO574.out); rintro e w98 ⟨rfl, hb⟩; have n0_ := Aside0.mk (Kd.V_below (by (with_reducible repeat (first | apply Kd.V_alloc | apply Kd.V_drewN | apply Kd.V_drew)); exact HO571.out) hb); have n1_ := Aside0.mk (Kd.V_below (by (with_reducible repeat (first | apply Kd.V_alloc | apply Kd.V_drewN | apply Kd.V_drew)); exact HO574.out) hb); have n2_ := Aside0.mk (Kd.V_below (by (with_reducible repeat (first | apply Kd.V_alloc | apply Kd.V_drewN | apply Kd.V_drew)); exact HO578.out) hb); have n3_ := Aside0.mk (blk_below (g := gb575) (o := .cells #[.slice Ao11 t569.length co11] 31 (0, 0)) (by (with_reducible repeat (first | refine blk_drewN ?_ _ | refine blk_drew ?_ | refine blk_alloc ?_ _)); exact BK575.out) hb); have n4_ := Aside0.mk (blk_below (g := gb581) (o := .cells #[.slice Ao15 t576.length co15] 31 (0, 0)) (by (with_reducible repeat (first | refine blk_drewN ?_ _ | refine blk_drew ?_ | refine blk_alloc ?_ _)); exact BK581.out) hb); have n5_ := Aside0.mk (below_step (by repeat (first | (with_reducible first | exact HB.out | apply below_alloc | apply pw_below_drewN | apply below_drew1 | refine below_set ?_ GE575.out | refine below_set ?_ GE581.out) | exact HB.out)) hb); clear HO571; clear HO574; clear HO578; clear BK575; clear BK581; clear HB; have HO571 := n0_; have HO574 := n1_; have HO578 := n2_; have BK575 := n3_; have BK581 := n4_; have HB := n5_; clear n0_ n1_ n2_ n3_ n4_ n5_; (try clear hb); (try clear hb2); (try clear hk); (try clear hi); have hcz99_0 : w98.cell? ⟨gb575, 0, none⟩ = some (.slice Ao11 t569.length co11) := (blk_cell BK575.out 0).trans rfl; have hfz99_0 := blk_frozen BK575.out 0) | (go_at_call 26; (with_reducible refine (nat_Nat_Text.calls k (fun k_ => ((True ∧ k_ ≠ gb575) ∧ k_ ≠ gb581)) _ _ t569 t595 _ ?side1 A85.out).mono ?_); (case side1 => exact HO571.out); rintro e w100 ⟨rfl, hb⟩; have n0_ := Aside0.mk (Kd.V_below (by (with_reducible repeat (first | apply Kd.V_alloc | apply Kd.V_drewN | apply Kd.V_drew)); exact HO571.out) hb); have n1_ := Aside0.mk (Kd.V_below (by (with_reducible repeat (first | apply Kd.V_alloc | apply Kd.V_drewN | apply Kd.V_drew)); exact HO574.out) hb); have n2_ := Aside0.mk (Kd.V_below (by (with_reducible repeat (first | apply Kd.V_alloc | apply Kd.V_drewN | apply Kd.V_drew)); exact HO578.out) hb); have n3_ := Aside0.mk (blk_below (g := gb575) (o := .cells #[.slice Ao11 t569.length co11] 31 (0, 0)) (by (with_reducible repeat (first | refine blk_drewN ?_ _ | refine blk_drew ?_ | refine blk_alloc ?_ _)); exact BK575.out) hb); have n4_ := Aside0.mk (blk_below (g := gb581) (o := .cells #[.slice Ao15 t576.length co15] 31 (0, 0)) (by (with_reducible repeat (first | refine blk_drewN ?_ _ | refine blk_drew ?_ | refine blk_alloc ?_ _)); exact BK581.out) hb); have n5_ := Aside0.mk (below_step (by repeat (first | (with_reducible first | exact HB.out | apply below_alloc | apply pw_below_drewN | apply below_drew1 | refine below_set ?_ GE575.out | refine below_set ?_ GE581.out) | exact HB.out)) hb); clear HO571; clear HO574; clear HO578; clear BK575; clear BK581; clear HB; have HO571 := n0_; have HO574 := n1_; have HO578 := n2_; have BK575 := n3_; have BK581 := n4_; have HB := n5_; clear n0_ n1_ n2_ n3_ n4_ n5_; (try clear hb); (try clear hb2); (try clear hk); (try clear hi)) | (go_at_call 27; (with_reducible refine (coxswainref03_Text.calls k _ _ t572 t596 _ ?side1 ?side2 A86.out).mono ?_); (case side1 => repeat (first | exact (Kd.V_reads' HO574.out).2.2 | (with_reducible refine Kd.C_alloc ?_ _) | (with_reducible refine Kd.C_drewN ?_ _) | (with_reducible refine Kd.C_drew ?_))); (case side2 => exact (Kd.V_reads' HO574.out).2.1); rintro e w101 ⟨rfl, hb⟩; have n0_ := Aside0.mk (Kd.V_below (by (with_reducible repeat (first | apply Kd.V_alloc | apply Kd.V_drewN | apply Kd.V_drew)); exact HO571.out) hb); have n1_ := Aside0.mk (Kd.V_below (by (with_reducible repeat (first | apply Kd.V_alloc | apply Kd.V_drewN | apply Kd.V_drew)); exact HO574.out) hb); have n2_ := Aside0.mk (Kd.V_below (by (with_reducible repeat (first | apply Kd.V_alloc | apply Kd.V_drewN | apply Kd.V_drew)); exact HO578.out) hb); have n3_ := Aside0.mk (blk_below (g := gb575) (o := .cells #[.slice Ao11 t569.length co11] 31 (0, 0)) (by (with_reducible repeat (first | refine blk_drewN ?_ _ | refine blk_drew ?_ | refine blk_alloc ?_ _)); exact BK575.out) hb); have n4_ := Aside0.mk (blk_below (g := gb581) (o := .cells #[.slice Ao15 t576.length co15] 31 (0, 0)) (by (with_reducible repeat (first | refine blk_drewN ?_ _ | refine blk_drew ?_ | refine blk_alloc ?_ _)); exact BK581.out) hb); have n5_ := Aside0.mk (below_step (by repeat (first | (with_reducible first | exact HB.out | apply below_alloc | apply pw_below_drewN | apply below_drew1 | refine below_set ?_ GE575.out | refine below_set ?_ GE581.out) | exact HB.out)) hb); clear HO571; clear HO574; clear HO578; clear BK575; clear BK581; clear HB; have HO571 := n0_; have HO574 := n1_; have HO578 := n2_; have BK575 := n3_; have BK581 := n4_; have HB := n5_; clear n0_ n1_ n2_ n3_ n4_ n5_; (try clear hb); (try clear hb2); (try clear hk); (try clear hi)))
                    go_meet
                    case rel => exact ⟨_, ((t595.toList != t596.toList)), (by first | rfl | (simp; done) | (simp [*]; done)), H', ⟨by first | omega | exact Nat.le_refl _⟩, ⟨by (with_reducible repeat (first | apply Kd.V_alloc | apply Kd.V_drewN | apply Kd.V_drew)); exact Kd.V_mono HO574.out (fun _ hk => ⟨hk.1.2, hk.2⟩)⟩, ⟨by (with_reducible repeat (first | apply Kd.V_alloc | apply Kd.V_drewN | apply Kd.V_drew)); exact Kd.V_mono HO571.out (fun _ hk => ⟨hk.1.2, hk.2⟩)⟩, ⟨by (with_reducible repeat (first | apply Kd.V_alloc | apply Kd.V_drewN | apply Kd.V_drew)); exact HO578.out⟩, ⟨by (with_reducible repeat (first | refine blk_drewN ?_ _ | refine blk_drew ?_ | refine blk_alloc ?_ _)); exact BK575.out⟩, ⟨by (with_reducible repeat (first | refine blk_drewN ?_ _ | refine blk_drew ?_ | refine blk_alloc ?_ _)); exact BK581.out⟩, ⟨by repeat (first | (with_reducible first | exact HB.out | apply below_alloc | apply pw_below_drewN | apply below_drew1 | refine below_set ?_ GE575.out | refine below_set ?_ GE581.out) | exact HB.out)⟩⟩
                  · rw [if_neg c84] at H
                    have c84b0 : (t593.toList == t594.toList) = false := beq_eq_false_iff_ne.mpr c84
                    have c84b1 : (t593.toList != t594.toList) = true := bne_iff_ne.mpr c84
                    have H' := Aside0.mk H
                    clear H
                    have hnb102 := NB581_575.out
                    have hnc102 := NB575_581.out
                    have hcz103_0 : w14.cell? ⟨gb581, 0, none⟩ = some (.slice none 0 0) := (blk_cell BK581.out 0).trans rfl
                    have hfz103_0 := blk_frozen BK581.out 0
                    go_wp2_with (first | (go_at_call 24; (with_reducible refine (nat_Nat_Zero.calls _ _ t576 true _ ?side1 ?side2 A65.out).mono ?_); (case side1 => refine (Kd.V_reads' (e := 27) (base := w.heap.size) (ok := fun k_ => (k_ ≠ gb575 ∧ k_ ≠ gb581)) (n := t576.length) (c := co15) ?_).2.2; exact (by (with_reducible repeat (first | apply Kd.V_alloc | apply Kd.V_drewN | apply Kd.V_drew)); exact (Kd.V_mono (Kd.V_far (p := ⟨gb581, 0, none⟩) (Kd.V_mono HO578.out (fun k_ hk => (⟨hk, hk.2⟩ : _ ∧ k_ ≠ gb581))) (fun _ hk => hk.2) (.slice Ao15 t576.length co15)) (fun _ h_ => h_.1)))); (case side2 => exact (Kd.V_reads' HO578.out).2.1); rintro e w104 ⟨rfl, hb⟩; have n0_ := Aside0.mk (Kd.V_below (by (with_reducible repeat (first | apply Kd.V_alloc | apply Kd.V_drewN | apply Kd.V_drew)); exact (Kd.V_mono (Kd.V_far (p := ⟨gb581, 0, none⟩) (Kd.V_mono HO571.out (fun k_ hk => (⟨hk, hk.2⟩ : _ ∧ k_ ≠ gb581))) (fun _ hk => hk.2) (.slice Ao15 t576.length co15)) (fun _ h_ => h_.1))) hb); have n1_ := Aside0.mk (Kd.V_below (by (with_reducible repeat (first | apply Kd.V_alloc | apply Kd.V_drewN | apply Kd.V_drew)); exact (Kd.V_mono (Kd.V_far (p := ⟨gb581, 0, none⟩) (Kd.V_mono HO574.out (fun k_ hk => (⟨hk, hk.2⟩ : _ ∧ k_ ≠ gb581))) (fun _ hk => hk.2) (.slice Ao15 t576.length co15)) (fun _ h_ => h_.1))) hb); have n2_ := Aside0.mk (Kd.V_below (by (with_reducible repeat (first | apply Kd.V_alloc | apply Kd.V_drewN | apply Kd.V_drew)); exact (Kd.V_mono (Kd.V_far (p := ⟨gb581, 0, none⟩) (Kd.V_mono HO578.out (fun k_ hk => (⟨hk, hk.2⟩ : _ ∧ k_ ≠ gb581))) (fun _ hk => hk.2) (.slice Ao15 t576.length co15)) (fun _ h_ => h_.1))) hb); have n3_ := Aside0.mk (blk_below (g := gb575) (o := .cells #[.slice Ao11 t569.length co11] 31 (0, 0)) (by (with_reducible repeat (first | refine blk_drewN ?_ _ | refine blk_drew ?_ | refine blk_alloc ?_ _)); refine blk_far ?_ NB575_581.out _; (with_reducible repeat (first | refine blk_drewN ?_ _ | refine blk_drew ?_ | refine blk_alloc ?_ _)); exact BK575.out) hb); have n4_ := Aside0.mk (blk_below (g := gb581) (o := .cells #[.slice Ao15 t576.length co15] 31 (0, 0)) (by (with_reducible repeat (first | refine blk_drewN ?_ _ | refine blk_drew ?_ | refine blk_alloc ?_ _)); refine blk_put (cs := #[.slice none 0 0]) ?_ 0 _ rfl; (with_reducible repeat (first | refine blk_drewN ?_ _ | refine blk_drew ?_ | refine blk_alloc ?_ _)); exact BK581.out) hb); have n5_ := Aside0.mk (below_step (by repeat (first | (with_reducible first | exact HB.out | apply below_alloc | apply pw_below_drewN | apply below_drew1 | refine below_set ?_ GE575.out | refine below_set ?_ GE581.out) | exact HB.out)) hb); clear HO571; clear HO574; clear HO578; clear BK575; clear BK581; clear HB; have HO571 := n0_; have HO574 := n1_; have HO578 := n2_; have BK575 := n3_; have BK581 := n4_; have HB := n5_; clear n0_ n1_ n2_ n3_ n4_ n5_; (try clear hb); (try clear hb2); (try clear hk); (try clear hi); have hcz105_0 : w104.cell? ⟨gb575, 0, none⟩ = some (.slice Ao11 t569.length co11) := (blk_cell BK575.out 0).trans rfl; have hfz105_0 := blk_frozen BK575.out 0) | (go_at_call 22; (with_reducible refine (nat_Nat_Bits.calls _ _ t569 t590 _ ?side1 ?side2 A68.out).mono ?_); (case side1 => repeat (first | exact (Kd.V_reads' HO571.out).2.2 | (with_reducible refine Kd.C_alloc ?_ _) | (with_reducible refine Kd.C_drewN ?_ _) | (with_reducible refine Kd.C_drew ?_))); (case side2 => exact (Kd.V_reads' HO571.out).2.1); rintro e w106 ⟨rfl, hb⟩; have n0_ := Aside0.mk (Kd.V_below (by (with_reducible repeat (first | apply Kd.V_alloc | apply Kd.V_drewN | apply Kd.V_drew)); exact HO571.out) hb); have n1_ := Aside0.mk (Kd.V_below (by (with_reducible repeat (first | apply Kd.V_alloc | apply Kd.V_drewN | apply Kd.V_drew)); exact HO574.out) hb); have n2_ := Aside0.mk (Kd.V_below (by (with_reducible repeat (first | apply Kd.V_alloc | apply Kd.V_drewN | apply Kd.V_drew)); exact HO578.out) hb); have n3_ := Aside0.mk (blk_below (g := gb575) (o := .cells #[.slice Ao11 t569.length co11] 31 (0, 0)) (by (with_reducible repeat (first | refine blk_drewN ?_ _ | refine blk_drew ?_ | refine blk_alloc ?_ _)); exact BK575.out) hb); have n4_ := Aside0.mk (blk_below (g := gb581) (o := .cells #[.slice Ao15 t576.length co15] 31 (0, 0)) (by (with_reducible repeat (first | refine blk_drewN ?_ _ | refine blk_drew ?_ | refine blk_alloc ?_ _)); exact BK581.out) hb); have n5_ := Aside0.mk (below_step (by repeat (first | (with_reducible first | exact HB.out | apply below_alloc | apply pw_below_drewN | apply below_drew1 | refine below_set ?_ GE575.out | refine below_set ?_ GE581.out) | exact HB.out)) hb); clear HO571; clear HO574; clear HO578; clear BK575; clear BK581; clear HB; have HO571 := n0_; have HO574 := n1_; have HO578 := n2_; have BK575 := n3_; have BK581 := n4_; have HB := n5_; clear n0_ n1_ n2_ n3_ n4_ n5_; (try clear hb); (try clear hb2); (try clear hk); (try clear hi); obtain ⟨Ao107, co107, eo107⟩ := Kd.V_slice HO574.out; subst eo107) | (go_at_call 43; (with_reducible refine (coxswainref03_Bits.calls k (fun k_ => ((True ∧ k_ ≠ gb575) ∧ k_ ≠ gb581)) _ _ t572 t591 _ ?side1 A69.out).mono ?_); (case side1 => exact HO574.out); rintro e w108 ⟨rfl, hb⟩; have n0_ := Aside0.mk (Kd.V_below (by (with_reducible repeat (first | apply Kd.V_alloc | apply Kd.V_drewN | apply Kd.V_drew)); exact HO571.out) hb); have n1_ := Aside0.mk (Kd.V_below (by (with_reducible repeat (first | apply Kd.V_alloc | apply Kd.V_drewN | apply Kd.V_drew)); exact HO574.out) hb); have n2_ := Aside0.mk (Kd.V_below (by (with_reducible repeat (first | apply Kd.V_alloc | apply Kd.V_drewN | apply Kd.V_drew)); exact HO578.out) hb); have n3_ := Aside0.mk (blk_below (g := gb575) (o := .cells #[.slice Ao11 t569.length co11] 31 (0, 0)) (by (with_reducible repeat (first | refine blk_drewN ?_ _ | refine blk_drew ?_ | refine blk_alloc ?_ _)); exact BK575.out) hb); have n4_ := Aside0.mk (blk_below (g := gb581) (o := .cells #[.slice Ao15 t576.length co15] 31 (0, 0)) (by (with_reducible repeat (first | refine blk_drewN ?_ _ | refine blk_drew ?_ | refine blk_alloc ?_ _)); exact BK581.out) hb); have n5_ := Aside0.mk (below_step (by repeat (first | (with_reducible first | exact HB.out | apply below_alloc | apply pw_below_drewN | apply below_drew1 | refine below_set ?_ GE575.out | refine below_set ?_ GE581.out) | exact HB.out)) hb); clear HO571; clear HO574; clear HO578; clear BK575; clear BK581; clear HB; have HO571 := n0_; have HO574 := n1_; have HO578 := n2_; have BK575 := n3_; have BK581 := n4_; have HB := n5_; clear n0_ n1_ n2_ n3_ n4_ n5_; (try clear hb); (try clear hb2); (try clear hk); (try clear hi); have hcz109_0 : w108.cell? ⟨gb575, 0, none⟩ = some (.slice Ao11 t569.length co11) := (blk_cell BK575.out 0).trans rfl; have hfz109_0 := blk_frozen BK575.out 0) | (go_at_call 24; (with_reducible refine (nat_Nat_Zero.calls _ _ t569 t592 _ ?side1 ?side2 A71.out).mono ?_); (case side1 => repeat (first | exact (Kd.V_reads' HO571.out).2.2 | (with_reducible refine Kd.C_alloc ?_ _) | (with_reducible refine Kd.C_drewN ?_ _) | (with_reducible refine Kd.C_drew ?_))); (case side2 => exact (Kd.V_reads' HO571.out).2.1); rintro e w110 ⟨rfl, hb⟩; have n0_ := Aside0.mk (Kd.V_below (by (with_reducible repeat (first | apply Kd.V_alloc | apply Kd.V_drewN | apply Kd.V_drew)); exact HO571.out) hb); have n1_ := Aside0.mk (Kd.V_below (by (with_reducible repeat (first | apply Kd.V_alloc | apply Kd.V_drewN | apply Kd.V_drew)); exact HO574.out) hb); have n2_ := Aside0.mk (Kd.V_below (by (with_reducible repeat (first | apply Kd.V_alloc | apply Kd.V_drewN | apply Kd.V_drew)); exact HO578.out) hb); have n3_ := Aside0.mk (blk_below (g := gb575) (o := .cells #[.slice Ao11 t569.length co11] 31 (0, 0)) (by (with_reducible repeat (first | refine blk_drewN ?_ _ | refine blk_drew ?_ | refine blk_alloc ?_ _)); exact BK575.out) hb); have n4_ := Aside0.mk (blk_below (g := gb581) (o := .cells #[.slice Ao15 t576.length co15] 31 (0, 0)) (by (with_reducible repeat (first | refine blk_drewN ?_ _ | refine blk_drew ?_ | refine blk_alloc ?_ _)); exact BK581.out) hb); have n5_ := Aside0.mk (below_step (by repeat (first | (with_reducible first | exact HB.out | apply below_alloc | apply pw_below_drewN | apply below_drew1 | refine below_set ?_ GE575.out | refine below_set ?_ GE581.out) | exact HB.out)) hb); clear HO571; clear HO574; clear HO578; clear BK575; clear BK581; clear HB; have HO571 := n0_; have HO574 := n1_; have HO578 := n2_; have BK575 := n3_; have BK581 := n4_; have HB := n5_; clear n0_ n1_ n2_ n3_ n4_ n5_; (try clear hb); (try clear hb2); (try clear hk); (try clear hi); have hcz111_0 : w110.cell? ⟨gb575, 0, none⟩ = some (.slice Ao11 t569.length co11) := (blk_cell BK575.out 0).trans rfl; have hfz111_0 := blk_frozen BK575.out 0) | (go_at_call 41; (with_reducible refine (nat_Nat_Bytes.calls k _ _ t569 t593 _ ?side1 ?side2 A82.out).mono ?_); (case side1 => repeat (first | exact (Kd.V_reads' HO571.out).2.2 | (with_reducible refine Kd.C_alloc ?_ _) | (with_reducible refine Kd.C_drewN ?_ _) | (with_reducible refine Kd.C_drew ?_))); (case side2 => exact (Kd.V_reads' HO571.out).2.1); rintro e w112 ⟨rfl, hb⟩; have n0_ := Aside0.mk (Kd.V_below (by (with_reducible repeat (first | apply Kd.V_alloc | apply Kd.V_drewN | apply Kd.V_drew)); exact HO571.out) hb); have n1_ := Aside0.mk (Kd.V_below (by (with_reducible repeat (first | apply Kd.V_alloc | apply Kd.V_drewN | apply Kd.V_drew)); exact HO574.out) hb); have n2_ := Aside0.mk (Kd.V_below (by (with_reducible repeat (first | apply Kd.V_alloc | apply Kd.V_drewN | apply Kd.V_drew)); exact HO578.out) hb); have n3_ := Aside0.mk (blk_below (g := gb575) (o := .cells #[.slice Ao11 t569.length co11] 31 (0, 0)) (by (with_reducible repeat (first | refine blk_drewN ?_ _ | refine blk_drew ?_ | refine blk_alloc ?_ _)); exact BK575.out) hb); have n4_ := Aside0.mk (blk_below (g := gb581) (o := .cells #[.slice Ao15 t576.length co15] 31 (0, 0)) (by (with_reducible repeat (first | refine blk_drewN ?_ _ | refine blk_drew ?_ | refine blk_alloc ?_ _)); exact BK581.out) hb); have n5_ := Aside0.mk (below_step (by repeat (first | (with_reducible first | exact HB.out | apply below_alloc | apply pw_below_drewN | apply below_drew1 | refine below_set ?_ GE575.out | refine below_set ?_ GE581.out) | exact HB.out)) hb); clear HO571; clear HO574; clear HO578; clear BK575; clear BK581; clear HB; have HO571 := n0_; have HO574 := n1_; have HO578 := n2_; have BK575 := n3_; have BK581 := n4_; have HB := n5_; clear n0_ n1_ n2_ n3_ n4_ n5_; (try clear hb); (try clear hb2); (try clear hk); (try clear hi)) | (go_at_call 44; (with_reducible refine (coxswainref03_Bytes.calls k (fun k_ => ((True ∧ k_ ≠ gb575) ∧ k_ ≠ gb581)) _ _ t572 t594 _ ?side1 A83.out).mono ?_); (case side1 => exact HO574.out); rintro e w113 ⟨rfl, hb⟩; have n0_ := Aside0.mk (Kd.V_below (by (with_reducible repeat (first | apply Kd.V_alloc | apply Kd.V_drewN | apply Kd.V_drew)); exact HO571.out) hb); have n1_ := Aside0.mk (Kd.V_below (by (with_reducible repeat (first | apply Kd.V_alloc | apply Kd.V_drewN | apply Kd.V_drew)); exact HO574.out) hb); have n2_ := Aside0.mk (Kd.V_below (by (with_reducible repeat (first | apply Kd.V_alloc | apply Kd.V_drewN | apply Kd.V_drew)); exact HO578.out) hb); have n3_ := Aside0.mk (blk_below (g := gb575) (o := .cells #[.slice Ao11 t569.length co11] 31 (0, 0)) (by (with_reducible repeat (first | refine blk_drewN ?_ _ | refine blk_drew ?_ | refine blk_alloc ?_ _)); exact BK575.out) hb); have n4_ := Aside0.mk (blk_below (g := gb581) (o := .cells #[.slice Ao15 t576.length co15] 31 (0, 0)) (by (with_reducible repeat (first | refine blk_drewN ?_ _ | refine blk_drew ?_ | refine blk_alloc ?_ _)); exact BK581.out) hb); have n5_ := Aside0.mk (below_step (by repeat (first | (with_reducible first | exact HB.out | apply below_alloc | apply pw_below_drewN | apply below_drew1 | refine below_set ?_ GE575.out | refine below_set ?_ GE581.out) | exact HB.out)) hb); clear HO571; clear HO574; clear HO578; clear BK575; clear BK581; clear HB; have HO571 := n0_; have HO574 := n1_; have HO578 := n2_; have BK575 := n3_; have BK581 := n4_; have HB := n5_; clear n0_ n1_ n2_ n3_ n4_ n5_; (try clear hb); (try clear hb2); (try clear hk); (try clear hi)))
                    go_meet
                    case rel => exact ⟨_, (true), (by first | rfl | (simp; done) | (simp [*]; done)), H', ⟨by first | omega | exact Nat.le_refl _⟩, ⟨by (with_reducible repeat (first | apply Kd.V_alloc | apply Kd.V_drewN | apply Kd.V_drew)); exact Kd.V_mono HO574.out (fun _ hk => ⟨hk.1.2, hk.2⟩)⟩, ⟨by (with_reducible repeat (first | apply Kd.V_alloc | apply Kd.V_drewN | apply Kd.V_drew)); exact Kd.V_mono HO571.out (fun _ hk => ⟨hk.1.2, hk.2⟩)⟩, ⟨by (with_reducible repeat (first | apply Kd.V_alloc | apply Kd.V_drewN | apply Kd.V_drew)); exact HO578.out⟩, ⟨by (with_reducible repeat (first | refine blk_drewN ?_ _ | refine blk_drew ?_ | refine blk_alloc ?_ _)); exact BK575.out⟩, ⟨by (with_reducible repeat (first | refine blk_drewN ?_ _ | refine blk_drew ?_ | refine blk_alloc ?_ _)); exact BK581.out⟩, ⟨by repeat (first | (with_reducible first | exact HB.out | apply below_alloc | apply pw_below_drewN | apply below_drew1 | refine below_set ?_ GE575.out | refine below_set ?_ GE581.out) | exact HB.out)⟩⟩
              · rw [if_neg c70] at H
                have c70b0 : (t590 == t591) = false := beq_eq_false_iff_ne.mpr c70
                have c70b1 : (t590 != t591) = true := bne_iff_ne.mpr c70
                have H' := Aside0.mk H
                clear H
                have hnb114 := NB581_575.out
                have hnc114 := NB575_581.out
                have hcz115_0 : w14.cell? ⟨gb581, 0, none⟩ = some (.slice none 0 0) := (blk_cell BK581.out 0).trans rfl
                have hfz115_0 := blk_frozen BK581.out 0
                go_wp2_with (first | (go_at_call 24; (with_reducible refine (nat_Nat_Zero.calls _ _ t576 true _ ?side1 ?side2 A65.out).mono ?_); (case side1 => refine (Kd.V_reads' (e := 27) (base := w.heap.size) (ok := fun k_ => (k_ ≠ gb575 ∧ k_ ≠ gb581)) (n := t576.length) (c := co15) ?_).2.2; exact (by (with_reducible repeat (first | apply Kd.V_alloc | apply Kd.V_drewN | apply Kd.V_drew)); exact (Kd.V_mono (Kd.V_far (p := ⟨gb581, 0, none⟩) (Kd.V_mono HO578.out (fun k_ hk => (⟨hk, hk.2⟩ : _ ∧ k_ ≠ gb581))) (fun _ hk => hk.2) (.slice Ao15 t576.length co15)) (fun _ h_ => h_.1)))); (case side2 => exact (Kd.V_reads' HO578.out).2.1); rintro e w116 ⟨rfl, hb⟩; have n0_ := Aside0.mk (Kd.V_below (by (with_reducible repeat (first | apply Kd.V_alloc | apply Kd.V_drewN | apply Kd.V_drew)); exact (Kd.V_mono (Kd.V_far (p := ⟨gb581, 0, none⟩) (Kd.V_mono HO571.out (fun k_ hk => (⟨hk, hk.2⟩ : _ ∧ k_ ≠ gb581))) (fun _ hk => hk.2) (.slice Ao15 t576.length co15)) (fun _ h_ => h_.1))) hb); have n1_ := Aside0.mk (Kd.V_below (by (with_reducible repeat (first | apply Kd.V_alloc | apply Kd.V_drewN | apply Kd.V_drew)); exact (Kd.V_mono (Kd.V_far (p := ⟨gb581, 0, none⟩) (Kd.V_mono HO574.out (fun k_ hk => (⟨hk, hk.2⟩ : _ ∧ k_ ≠ gb581))) (fun _ hk => hk.2) (.slice Ao15 t576.length co15)) (fun _ h_ => h_.1))) hb); have n2_ := Aside0.mk (Kd.V_below (by (with_reducible repeat (first | apply Kd.V_alloc | apply Kd.V_drewN | apply Kd.V_drew)); exact (Kd.V_mono (Kd.V_far (p := ⟨gb581, 0, none⟩) (Kd.V_mono HO578.out (fun k_ hk => (⟨hk, hk.2⟩ : _ ∧ k_ ≠ gb581))) (fun _ hk => hk.2) (.slice Ao15 t576.length co15)) (fun _ h_ => h_.1))) hb); have n3_ := Aside0.mk (blk_below (g := gb575) (o := .cells #[.slice Ao11 t569.length co11] 31 (0, 0)) (by (with_reducible repeat (first | refine blk_drewN ?_ _ | refine blk_drew ?_ | refine blk_alloc ?_ _)); refine blk_far ?_ NB575_581.out _; (with_reducible repeat (first | refine blk_drewN ?_ _ | refine blk_drew ?_ | refine blk_alloc ?_ _)); exact BK575.out) hb); have n4_ := Aside0.mk (blk_below (g := gb581) (o := .cells #[.slice Ao15 t576.length co15] 31 (0, 0)) (by (with_reducible repeat (first | refine blk_drewN ?_ _ | refine blk_drew ?_ | refine blk_alloc ?_ _)); refine blk_put (cs := #[.slice none 0 0]) ?_ 0 _ rfl; (with_reducible repeat (first | refine blk_drewN ?_ _ | refine blk_drew ?_ | refine blk_alloc ?_ _)); exact BK581.out) hb); have n5_ := Aside0.mk (below_step (by repeat (first | (with_reducible first | exact HB.out | apply below_alloc | apply pw_below_drewN | apply below_drew1 | refine below_set ?_ GE575.out | refine below_set ?_ GE581.out) | exact HB.out)) hb); clear HO571; clear HO574; clear HO578; clear BK575; clear BK581; clear HB; have HO571 := n0_; have HO574 := n1_; have HO578 := n2_; have BK575 := n3_; have BK581 := n4_; have HB := n5_; clear n0_ n1_ n2_ n3_ n4_ n5_; (try clear hb); (try clear hb2); (try clear hk); (try clear hi); have hcz117_0 : w116.cell? ⟨gb575, 0, none⟩ = some (.slice Ao11 t569.length co11) := (blk_cell BK575.out 0).trans rfl; have hfz117_0 := blk_frozen BK575.out 0) | (go_at_call 22; (with_reducible refine (nat_Nat_Bits.calls _ _ t569 t590 _ ?side1 ?side2 A68.out).mono ?_); (case side1 => repeat (first | exact (Kd.V_reads' HO571.out).2.2 | (with_reducible refine Kd.C_alloc ?_ _) | (with_reducible refine Kd.C_drewN ?_ _) | (with_reducible refine Kd.C_drew ?_))); (case side2 => exact (Kd.V_reads' HO571.out).2.1); rintro e w118 ⟨rfl, hb⟩; have n0_ := Aside0.mk (Kd.V_below (by (with_reducible repeat (first | apply Kd.V_alloc | apply Kd.V_drewN | apply Kd.V_drew)); exact HO571.out) hb); have n1_ := Aside0.mk (Kd.V_below (by (with_reducible repeat (first | apply Kd.V_alloc | apply Kd.V_drewN | apply Kd.V_drew)); exact HO574.out) hb); have n2_ := Aside0.mk (Kd.V_below (by (with_reducible repeat (first | apply Kd.V_alloc | apply Kd.V_drewN | apply Kd.V_drew)); exact HO578.out) hb); have n3_ := Aside0.mk (blk_below (g := gb575) (o := .cells #[.slice Ao11 t569.length co11] 31 (0, 0)) (by (with_reducible repeat (first | refine blk_drewN ?_ _ | refine blk_drew ?_ | refine blk_alloc ?_ _)); exact BK575.out) hb); have n4_ := Aside0.mk (blk_below (g := gb581) (o := .cells #[.slice Ao15 t576.length co15] 31 (0, 0)) (by (with_reducible repeat (first | refine blk_drewN ?_ _ | refine blk_drew ?_ | refine blk_alloc ?_ _)); exact BK581.out) hb); have n5_ := Aside0.mk (below_step (by repeat (first | (with_reducible first | exact HB.out | apply below_alloc | apply pw_below_drewN | apply below_drew1 | refine below_set ?_ GE575.out | refine below_set ?_ GE581.out) | exact HB.out)) hb); clear HO571; clear HO574; clear HO578; clear BK575; clear BK581; clear HB; have HO571 := n0_; have HO574 := n1_; have HO578 := n2_; have BK575 := n3_; have BK581 := n4_; have HB := n5_; clear n0_ n1_ n2_ n3_ n4_ n5_; (try clear hb); (try clear hb2); (try clear hk); (try clear hi); obtain ⟨Ao119, co119, eo119⟩ := Kd.V_slice HO574.out; subst eo119) | (go_at_call 43; (with_reducible refine (coxswainref03_Bits.calls k (fun k_ => ((True ∧ k_ ≠ gb575) ∧ k_ ≠ gb581)) _ _ t572 t591 _ ?side1 A69.out).mono ?_); (case side1 => exact HO574.out); rintro e w120 ⟨rfl, hb⟩; have n0_ := Aside0.mk (Kd.V_below (by (with_reducible repeat (first | apply Kd.V_alloc | apply Kd.V_drewN | apply Kd.V_drew)); exact HO571.out) hb); have n1_ := Aside0.mk (Kd.V_below (by (with_reducible repeat (first | apply Kd.V_alloc | apply Kd.V_drewN | apply Kd.V_drew)); exact HO574.out) hb); have n2_ := Aside0.mk (Kd.V_below (by (with_reducible repeat (first | apply Kd.V_alloc | apply Kd.V_drewN | apply Kd.V_drew)); exact HO578.out) hb); have n3_ := Aside0.mk (blk_below (g := gb575) (o := .cells #[.slice Ao11 t569.length co11] 31 (0, 0)) (by (with_reducible repeat (first | refine blk_drewN ?_ _ | refine blk_drew ?_ | refine blk_alloc ?_ _)); exact BK575.out) hb); have n4_ := Aside0.mk (blk_below (g := gb581) (o := .cells #[.slice Ao15 t576.length co15] 31 (0, 0)) (by (with_reducible repeat (first | refine blk_drewN ?_ _ | refine blk_drew ?_ | refine blk_alloc ?_ _)); exact BK581.out) hb); have n5_ := Aside0.mk (below_step (by repeat (first | (with_reducible first | exact HB.out | apply below_alloc | apply pw_below_drewN | apply below_drew1 | refine below_set ?_ GE575.out | refine below_set ?_ GE581.out) | exact HB.out)) hb); clear HO571; clear HO574; clear HO578; clear BK575; clear BK581; clear HB; have HO571 := n0_; have HO574 := n1_; have HO578 := n2_; have BK575 := n3_; have BK581 := n4_; have HB := n5_; clear n0_ n1_ n2_ n3_ n4_ n5_; (try clear hb); (try clear hb2); (try clear hk); (try clear hi)))
                go_meet
                case rel => exact ⟨_, (true), (by first | rfl | (simp; done) | (simp [*]; done)), H', ⟨by first | omega | exact Nat.le_refl _⟩, ⟨by (with_reducible repeat (first | apply Kd.V_alloc | apply Kd.V_drewN | apply Kd.V_drew)); exact Kd.V_mono HO574.out (fun _ hk => ⟨hk.1.2, hk.2⟩)⟩, ⟨by (with_reducible repeat (first | apply Kd.V_alloc | apply Kd.V_drewN | apply Kd.V_drew)); exact Kd.V_mono HO571.out (fun _ hk => ⟨hk.1.2, hk.2⟩)⟩, ⟨by (with_reducible repeat (first | apply Kd.V_alloc | apply Kd.V_drewN | apply Kd.V_drew)); exact HO578.out⟩, ⟨by (with_reducible repeat (first | refine blk_drewN ?_ _ | refine blk_drew ?_ | refine blk_alloc ?_ _)); exact BK575.out⟩, ⟨by (with_reducible repeat (first | refine blk_drewN ?_ _ | refine blk_drew ?_ | refine blk_alloc ?_ _)); exact BK581.out⟩, ⟨by repeat (first | (with_reducible first | exact HB.out | apply below_alloc | apply pw_below_drewN | apply below_drew1 | refine below_set ?_ GE575.out | refine below_set ?_ GE581.out) | exact HB.out)⟩⟩
            · rw [if_neg c67] at H
              have c67b0 : (t579 == 0) = false := beq_eq_false_iff_ne.mpr c67
              have c67b1 : (t579 != 0) = true := bne_iff_ne.mpr c67
              have H' := Aside0.mk H
              clear H
              have hnb121 := NB581_575.out
              have hnc121 := NB575_581.out
              have hcz122_0 : w14.cell? ⟨gb581, 0, none⟩ = some (.slice none 0 0) := (blk_cell BK581.out 0).trans rfl
              have hfz122_0 := blk_frozen BK581.out 0
              go_wp2_with (first | (go_at_call 24; (with_reducible refine (nat_Nat_Zero.calls _ _ t576 true _ ?side1 ?side2 A65.out).mono ?_); (case side1 => refine (Kd.V_reads' (e := 27) (base := w.heap.size) (ok := fun k_ => (k_ ≠ gb575 ∧ k_ ≠ gb581)) (n := t576.length) (c := co15) ?_).2.2; exact (by (with_reducible repeat (first | apply Kd.V_alloc | apply Kd.V_drewN | apply Kd.V_drew)); exact (Kd.V_mono (Kd.V_far (p := ⟨gb581, 0, none⟩) (Kd.V_mono HO578.out (fun k_ hk => (⟨hk, hk.2⟩ : _ ∧ k_ ≠ gb581))) (fun _ hk => hk.2) (.slice Ao15 t576.length co15)) (fun _ h_ => h_.1)))); (case side2 => exact (Kd.V_reads' HO578.out).2.1); rintro e w123 ⟨rfl, hb⟩; have n0_ := Aside0.mk (Kd.V_below (by (with_reducible repeat (first | apply Kd.V_alloc | apply Kd.V_drewN | apply Kd.V_drew)); exact (Kd.V_mono (Kd.V_far (p := ⟨gb581, 0, none⟩) (Kd.V_mono HO571.out (fun k_ hk => (⟨hk, hk.2⟩ : _ ∧ k_ ≠ gb581))) (fun _ hk => hk.2) (.slice Ao15 t576.length co15)) (fun _ h_ => h_.1))) hb); have n1_ := Aside0.mk (Kd.V_below (by (with_reducible repeat (first | apply Kd.V_alloc | apply Kd.V_drewN | apply Kd.V_drew)); exact (Kd.V_mono (Kd.V_far (p := ⟨gb581, 0, none⟩) (Kd.V_mono HO574.out (fun k_ hk => (⟨hk, hk.2⟩ : _ ∧ k_ ≠ gb581))) (fun _ hk => hk.2) (.slice Ao15 t576.length co15)) (fun _ h_ => h_.1))) hb); have n2_ := Aside0.mk (Kd.V_below (by (with_reducible repeat (first | apply Kd.V_alloc | apply Kd.V_drewN | apply Kd.V_drew)); exact (Kd.V_mono (Kd.V_far (p := ⟨gb581, 0, none⟩) (Kd.V_mono HO578.out (fun k_ hk => (⟨hk, hk.2⟩ : _ ∧ k_ ≠ gb581))) (fun _ hk => hk.2) (.slice Ao15 t576.length co15)) (fun _ h_ => h_.1))) hb); have n3_ := Aside0.mk (blk_below (g := gb575) (o := .cells #[.slice Ao11 t569.length co11] 31 (0, 0)) (by (with_reducible repeat (first | refine blk_drewN ?_ _ | refine blk_drew ?_ | refine blk_alloc ?_ _)); refine blk_far ?_ NB575_581.out _; (with_reducible repeat (first | refine blk_drewN ?_ _ | refine blk_drew ?_ | refine blk_alloc ?_ _)); exact BK575.out) hb); have n4_ := Aside0.mk (blk_below (g := gb581) (o := .cells #[.slice Ao15 t576.length co15] 31 (0, 0)) (by (with_reducible repeat (first | refine blk_drewN ?_ _ | refine blk_drew ?_ | refine blk_alloc ?_ _)); refine blk_put (cs := #[.slice none 0 0]) ?_ 0 _ rfl; (with_reducible repeat (first | refine blk_drewN ?_ _ | refine blk_drew ?_ | refine blk_alloc ?_ _)); exact BK581.out) hb); have n5_ := Aside0.mk (below_step (by repeat (first | (with_reducible first | exact HB.out | apply below_alloc | apply pw_below_drewN | apply below_drew1 | refine below_set ?_ GE575.out | refine below_set ?_ GE581.out) | exact HB.out)) hb); clear HO571; clear HO574; clear HO578; clear BK575; clear BK581; clear HB; have HO571 := n0_; have HO574 := n1_; have HO578 := n2_; have BK575 := n3_; have BK581 := n4_; have HB := n5_; clear n0_ n1_ n2_ n3_ n4_ n5_; (try clear hb); (try clear hb2); (try clear hk); (try clear hi)))
              go_meet
              case rel => exact ⟨_, (true), (by first | rfl | (simp; done) | (simp [*]; done)), H', ⟨by first | omega | exact Nat.le_refl _⟩, ⟨by (with_reducible repeat (first | apply Kd.V_alloc | apply Kd.V_drewN | apply Kd.V_drew)); exact Kd.V_mono HO574.out (fun _ hk => ⟨hk.1.2, hk.2⟩)⟩, ⟨by (with_reducible repeat (first | apply Kd.V_alloc | apply Kd.V_drewN | apply Kd.V_drew)); exact Kd.V_mono HO571.out (fun _ hk => ⟨hk.1.2, hk.2⟩)⟩, ⟨by (with_reducible repeat (first | apply Kd.V_alloc | apply Kd.V_drewN | apply Kd.V_drew)); exact HO578.out⟩, ⟨by (with_reducible repeat (first | refine blk_drewN ?_ _ | refine blk_drew ?_ | refine blk_alloc ?_ _)); exact BK575.out⟩, ⟨by (with_reducible repeat (first | refine blk_drewN ?_ _ | refine blk_drew ?_ | refine blk_alloc ?_ _)); exact BK581.out⟩, ⟨by repeat (first | (with_reducible first | exact HB.out | apply below_alloc | apply pw_below_drewN | apply below_drew1 | refine below_set ?_ GE575.out | refine below_set ?_ GE581.out) | exact HB.out)⟩⟩
          · replace c66 := Bool.eq_false_iff.mpr c66
            subst c66
            have H1 : (coxswainlaw03_NatOne.j0 k a1 t572 t579 false true t569 t576) = some r := by rw [if_neg (show ¬ (false = true) by decide)] at H; exact H
            clear H
            have H := H1
            clear H1
            have H' := Aside0.mk H
            clear H
            have hnb124 := NB581_575.out
            have hnc124 := NB575_581.out
            have hcz125_0 : w14.cell? ⟨gb581, 0, none⟩ = some (.slice none 0 0) := (blk_cell BK581.out 0).trans rfl
            have hfz125_0 := blk_frozen BK581.out 0
            go_wp2_with (first | (go_at_call 24; (with_reducible refine (nat_Nat_Zero.calls _ _ t576 false _ ?side1 ?side2 A65.out).mono ?_); (case side1 => refine (Kd.V_reads' (e := 27) (base := w.heap.size) (ok := fun k_ => (k_ ≠ gb575 ∧ k_ ≠ gb581)) (n := t576.length) (c := co15) ?_).2.2; exact (by (with_reducible repeat (first | apply Kd.V_alloc | apply Kd.V_drewN | apply Kd.V_drew)); exact (Kd.V_mono (Kd.V_far (p := ⟨gb581, 0, none⟩) (Kd.V_mono HO578.out (fun k_ hk => (⟨hk, hk.2⟩ : _ ∧ k_ ≠ gb581))) (fun _ hk => hk.2) (.slice Ao15 t576.length co15)) (fun _ h_ => h_.1)))); (case side2 => exact (Kd.V_reads' HO578.out).2.1); rintro e w126 ⟨rfl, hb⟩; have n0_ := Aside0.mk (Kd.V_below (by (with_reducible repeat (first | apply Kd.V_alloc | apply Kd.V_drewN | apply Kd.V_drew)); exact (Kd.V_mono (Kd.V_far (p := ⟨gb581, 0, none⟩) (Kd.V_mono HO571.out (fun k_ hk => (⟨hk, hk.2⟩ : _ ∧ k_ ≠ gb581))) (fun _ hk => hk.2) (.slice Ao15 t576.length co15)) (fun _ h_ => h_.1))) hb); have n1_ := Aside0.mk (Kd.V_below (by (with_reducible repeat (first | apply Kd.V_alloc | apply Kd.V_drewN | apply Kd.V_drew)); exact (Kd.V_mono (Kd.V_far (p := ⟨gb581, 0, none⟩) (Kd.V_mono HO574.out (fun k_ hk => (⟨hk, hk.2⟩ : _ ∧ k_ ≠ gb581))) (fun _ hk => hk.2) (.slice Ao15 t576.length co15)) (fun _ h_ => h_.1))) hb); have n2_ := Aside0.mk (Kd.V_below (by (with_reducible repeat (first | apply Kd.V_alloc | apply Kd.V_drewN | apply Kd.V_drew)); exact (Kd.V_mono (Kd.V_far (p := ⟨gb581, 0, none⟩) (Kd.V_mono HO578.out (fun k_ hk => (⟨hk, hk.2⟩ : _ ∧ k_ ≠ gb581))) (fun _ hk => hk.2) (.slice Ao15 t576.length co15)) (fun _ h_ => h_.1))) hb); have n3_ := Aside0.mk (blk_below (g := gb575) (o := .cells #[.slice Ao11 t569.length co11] 31 (0, 0)) (by (with_reducible repeat (first | refine blk_drewN ?_ _ | refine blk_drew ?_ | refine blk_alloc ?_ _)); refine blk_far ?_ NB575_581.out _; (with_reducible repeat (first | refine blk_drewN ?_ _ | refine blk_drew ?_ | refine blk_alloc ?_ _)); exact BK575.out) hb); have n4_ := Aside0.mk (blk_below (g := gb581) (o := .cells #[.slice Ao15 t576.length co15] 31 (0, 0)) (by (with_reducible repeat (first | refine blk_drewN ?_ _ | refine blk_drew ?_ | refine blk_alloc ?_ _)); refine blk_put (cs := #[.slice none 0 0]) ?_ 0 _ rfl; (with_reducible repeat (first | refine blk_drewN ?_ _ | refine blk_drew ?_ | refine blk_alloc ?_ _)); exact BK581.out) hb); have n5_ := Aside0.mk (below_step (by repeat (first | (with_reducible first | exact HB.out | apply below_alloc | apply pw_below_drewN | apply below_drew1 | refine below_set ?_ GE575.out | refine below_set ?_ GE581.out) | exact HB.out)) hb); clear HO571; clear HO574; clear HO578; clear BK575; clear BK581; clear HB; have HO571 := n0_; have HO574 := n1_; have HO578 := n2_; have BK575 := n3_; have BK581 := n4_; have HB := n5_; clear n0_ n1_ n2_ n3_ n4_ n5_; (try clear hb); (try clear hb2); (try clear hk); (try clear hi)))
            go_meet
            case rel => exact ⟨_, (true), (by first | rfl | (simp; done) | (simp [*]; done)), H', ⟨by first | omega | exact Nat.le_refl _⟩, ⟨by (with_reducible repeat (first | apply Kd.V_alloc | apply Kd.V_drewN | apply Kd.V_drew)); exact Kd.V_mono HO574.out (fun _ hk => ⟨hk.1.2, hk.2⟩)⟩, ⟨by (with_reducible repeat (first | apply Kd.V_alloc | apply Kd.V_drewN | apply Kd.V_drew)); exact Kd.V_mono HO571.out (fun _ hk => ⟨hk.1.2, hk.2⟩)⟩, ⟨by (with_reducible repeat (first | apply Kd.V_alloc | apply Kd.V_drewN | apply Kd.V_drew)); exact HO578.out⟩, ⟨by (with_reducible repeat (first | refine blk_drewN ?_ _ | refine blk_drew ?_ | refine blk_alloc ?_ _)); exact BK575.out⟩, ⟨by (with_reducible repeat (first | refine blk_drewN ?_ _ | refine blk_drew ?_ | refine blk_alloc ?_ _)); exact BK581.out⟩, ⟨by repeat (first | (with_reducible first | exact HB.out | apply below_alloc | apply pw_below_drewN | apply below_drew1 | refine below_set ?_ GE575.out | refine below_set ?_ GE581.out) | exact HB.out)⟩⟩
    case rest =>
      clear HC7
      try clear c1
      try clear c2
      try clear p2
      try clear c3
      try clear c4
      try clear c5
      try clear c6
      try clear c7
      try clear c8
      try clear c10
      try clear c11
      try clear c12
      try clear c16
      try clear c18
      try clear c18b0
      try clear c18b1
      try clear c18b2
      try clear c19
      try clear c20
      try clear c22
      try clear c22b0
      try clear c22b1
      try clear c24
      try clear c24b0
      try clear c24b1
      try clear c24b2
      try clear c25
      try clear c31
      try clear c34
      try clear c34b0
      try clear c34b1
      try clear c37
      try clear c50
      try clear c60
      try clear c66
      try clear c67
      try clear c67b0
      try clear c67b1
      try clear c70
      try clear c70b0
      try clear c70b1
      try clear c72
      try clear c72b0
      try clear c72b1
      try clear c72b2
      try clear c73
      try clear c84
      try clear c84b0
      try clear c84b1
      try clear c87
      try clear c102
      try clear c114
      try clear c121
      try clear c124
      try clear hcz103_0
      try clear hcz105_0
      try clear hcz109_0
      try clear hcz111_0
      try clear hcz115_0
      try clear hcz117_0
      try clear hcz122_0
      try clear hcz125_0
      try clear hcz12_0
      try clear hcz17_0
      try clear hcz26_0
      try clear hcz30_0
      try clear hcz38_0
      try clear hcz42_0
      try clear hcz44_0
      try clear hcz47_0
      try clear hcz51_0
      try clear hcz55_0
      try clear hcz57_0
      try clear hcz61_0
      try clear hcz74_0
      try clear hcz76_0
      try clear hcz80_0
      try clear hcz88_0
      try clear hcz90_0
      try clear hcz94_0
      try clear hcz96_0
      try clear hcz99_0
      try clear hfz103_0
      try clear hfz105_0
      try clear hfz109_0
      try clear hfz111_0
      try clear hfz115_0
      try clear hfz117_0
      try clear hfz122_0
      try clear hfz125_0
      try clear hfz12_0
      try clear hfz17_0
      try clear hfz26_0
      try clear hfz30_0
      try clear hfz38_0
      try clear hfz42_0
      try clear hfz44_0
      try clear hfz47_0
      try clear hfz51_0
      try clear hfz55_0
      try clear hfz57_0
      try clear hfz61_0
      try clear hfz74_0
      try clear hfz76_0
      try clear hfz80_0
      try clear hfz88_0
      try clear hfz90_0
      try clear hfz94_0
      try clear hfz96_0
      try clear hfz99_0
      obtain ⟨kq, x73_6, rfl, HA, HJ6, HO_6, HO_576000, HO_582000, BK575, BK581, HB⟩ := hcut
      cases kq with
      | zero => exact absurd HA.out (by simp [coxswainlaw03_NatOne.j0])
      | succ kj6 =>
        have H := HA.out
        clear HA
        simp only [coxswainlaw03_NatOne.j0] at H
        by_cases c127 : x73_6 = true
        · subst c127
          have H1 : (some false) = some r := by rw [if_pos rfl] at H; exact H
          clear H
          have H := H1
          clear H1
          obtain rfl := Option.some.inj H
          go_wp2
          go_ret
          exact ⟨by first | rfl | (simp [errW_none, errW_some] <;> rfl) | (simp [*, errW_none, errW_some] <;> rfl), by repeat (first | (with_reducible first | exact HB.out | apply below_alloc | apply pw_below_drewN | apply below_drew1 | refine below_set ?_ GE575.out | refine below_set ?_ GE581.out) | exact HB.out)⟩
        · replace c127 := Bool.eq_false_iff.mpr c127
          subst c127
          have H1 : (if t580 = true then ((coxswainref03_Div.f kj6 t572 (wrap64 (a1))).bind fun bt597 => ((nat_Nat_Text.f kj6 t576).bind fun t601 => ((coxswainref03_Text.f kj6 bt597.1).bind fun t602 => (if t601.toList = t602.toList then (if (wrap64 (t579)) = bt597.2 then (coxswainlaw03_NatOne.j1 kj6 t569) else (some false)) else (some false))))) else (coxswainlaw03_NatOne.j1 kj6 t569)) = some r := by rw [if_neg (show ¬ (false = true) by decide)] at H; exact H
          clear H
          have H := H1
          clear H1
          have HC128 := Aside0.mk H
          clear H
          go_upto_if 74 with (fail)
          go_cut [] (fun wc => ∃ (kq : Nat), Aside0 (coxswainlaw03_NatOne.j1 kq t569 = some r) ∧ Aside0 (kq ≤ kj6) ∧ Aside0 (Kd.V (Kd.int .u32) 27 wc w.heap.size (fun k_ => k_ ≠ gb575 ∧ k_ ≠ gb581) (.slice Ao11 t569.length co11) t569) ∧ Aside0 (Kd.V (Kd.int .u32) 27 wc w.heap.size (fun k_ => k_ ≠ gb575 ∧ k_ ≠ gb581) (.slice Ao15 t576.length co15) t576) ∧ Aside0 (wc.heap[gb575]? = some (.cells #[(.slice Ao11 t569.length co11)] 31 (0, 0))) ∧ Aside0 (wc.heap[gb581]? = some (.cells #[(.slice Ao15 t576.length co15)] 31 (0, 0))) ∧ Aside0 (Below w.heap.size w wc))
          case first =>
            have H := HC128.out
            clear HC128
            by_cases c129 : t580 = true
            · subst c129
              have H1 : ((coxswainref03_Div.f kj6 t572 (wrap64 (a1))).bind fun bt597 => ((nat_Nat_Text.f kj6 t576).bind fun t601 => ((coxswainref03_Text.f kj6 bt597.1).bind fun t602 => (if t601.toList = t602.toList then (if (wrap64 (t579)) = bt597.2 then (coxswainlaw03_NatOne.j1 kj6 t569) else (some false)) else (some false))))) = some r := by rw [if_pos rfl] at H; exact H
              clear H
              have H := H1
              clear H1
              replace H := Option.bind_eq_some_iff.mp H
              obtain ⟨⟨t597, t600⟩, A1300, H⟩ := H
              replace H : ((nat_Nat_Text.f kj6 t576).bind fun t601 => ((coxswainref03_Text.f kj6 t597).bind fun t602 => (if t601.toList = t602.toList then (if (wrap64 (t579)) = t600 then (coxswainlaw03_NatOne.j1 kj6 t569) else (some false)) else (some false)))) = some r := H
              have A130 := Aside0.mk A1300
              clear A1300
              replace H := Option.bind_eq_some_iff.mp H
              obtain ⟨t601, A1310, H⟩ := H
              replace H : ((coxswainref03_Text.f kj6 t597).bind fun t602 => (if t601.toList = t602.toList then (if (wrap64 (t579)) = t600 then (coxswainlaw03_NatOne.j1 kj6 t569) else (some false)) else (some false))) = some r := H
              have A131 := Aside0.mk A1310
              clear A1310
              replace H := Option.bind_eq_some_iff.mp H
              obtain ⟨t602, A1320, H⟩ := H
              replace H : (if t601.toList = t602.toList then (if (wrap64 (t579)) = t600 then (coxswainlaw03_NatOne.j1 kj6 t569) else (some false)) else (some false)) = some r := H
              have A132 := Aside0.mk A1320
              clear A1320
              by_cases c133 : t601.toList = t602.toList
              · rw [if_pos c133] at H
                have c133b0 : (t601.toList == t602.toList) = true := beq_iff_eq.mpr c133
                have c133b1 : (t601.toList != t602.toList) = false := bne_eq_false_iff_eq.mpr c133
                clear c133
                (first | rw [c133b0] | (simp only [i64_w, i32_w]; rw [c133b0]) | skip)
                by_cases c134 : (wrap64 (t579)) = t600
                · rw [if_pos c134] at H
                  have c134b0 : ((wrap64 (t579)) == t600) = true := beq_iff_eq.mpr c134
                  have c134b1 : ((wrap64 (t579)) != t600) = false := bne_eq_false_iff_eq.mpr c134
                  clear c134
                  have H' := Aside0.mk H
                  clear H
                  obtain ⟨Ao135, co135, eo135⟩ := Kd.V_slice HO_6.out
                  subst eo135
                  go_wp2_with (first | ((with_reducible refine gate_callee (f := 45) rfl ?_); refine goesL_ (some 79) rfl rfl Try.func45 (by kernel_rfl) rfl #[.slice Ao135 t572.length co135, .int .i64 (wrap64 (a1))] rfl (by (try simp only [List.map_toArray, List.map_cons, List.map_nil]); first | done | rfl | (simp only [List.length_drop, List.length_take]; rfl)) ?_; (with_reducible refine (coxswainref03_Div.calls kj6 _ _ t572 (wrap64 (a1)) t597 t600 _ ?side1 ?side2 A130.out).mono ?_); (case side1 => repeat (first | exact (Kd.V_reads' HO_6.out).2.2 | (with_reducible refine Kd.C_alloc ?_ _) | (with_reducible refine Kd.C_drewN ?_ _) | (with_reducible refine Kd.C_drew ?_))); (case side2 => exact (Kd.V_reads' HO_6.out).2.1); rintro e w136 ⟨v598, rfl, ho0, hb⟩; refine ⟨_, rfl, ?_⟩; have n0_ := Aside0.mk (Kd.V_below (by (with_reducible repeat (first | apply Kd.V_alloc | apply Kd.V_drewN | apply Kd.V_drew)); exact HO_6.out) hb); have n1_ := Aside0.mk (Kd.V_below (by (with_reducible repeat (first | apply Kd.V_alloc | apply Kd.V_drewN | apply Kd.V_drew)); exact HO_576000.out) hb); have n2_ := Aside0.mk (Kd.V_below (by (with_reducible repeat (first | apply Kd.V_alloc | apply Kd.V_drewN | apply Kd.V_drew)); exact HO_582000.out) hb); have n3_ := Aside0.mk (Kd.V_lower (Kd.V_mono (ok' := fun k_ => k_ ≠ gb575 ∧ k_ ≠ gb581) ho0 (fun k_ hk_ => ⟨(Kd.freshB (g := gb575) (o := .cells #[.slice Ao11 t569.length co11] 31 (0, 0)) (by (with_reducible repeat (first | refine blk_drewN ?_ _ | refine blk_drew ?_ | refine blk_alloc ?_ _)); exact BK575.out) k_ hk_), (Kd.freshB (g := gb581) (o := .cells #[.slice Ao15 t576.length co15] 31 (0, 0)) (by (with_reducible repeat (first | refine blk_drewN ?_ _ | refine blk_drew ?_ | refine blk_alloc ?_ _)); exact BK581.out) k_ hk_)⟩)) (below_size (by repeat (first | (with_reducible first | exact HB.out | apply below_alloc | apply pw_below_drewN | apply below_drew1 | refine below_set ?_ GE575.out | refine below_set ?_ GE581.out) | exact HB.out)))); have n4_ := Aside0.mk (blk_below (g := gb575) (o := .cells #[.slice Ao11 t569.length co11] 31 (0, 0)) (by (with_reducible repeat (first | refine blk_drewN ?_ _ | refine blk_drew ?_ | refine blk_alloc ?_ _)); exact BK575.out) hb); have n5_ := Aside0.mk (blk_below (g := gb581) (o := .cells #[.slice Ao15 t576.length co15] 31 (0, 0)) (by (with_reducible repeat (first | refine blk_drewN ?_ _ | refine blk_drew ?_ | refine blk_alloc ?_ _)); exact BK581.out) hb); have n6_ := Aside0.mk (below_step (by repeat (first | (with_reducible first | exact HB.out | apply below_alloc | apply pw_below_drewN | apply below_drew1 | refine below_set ?_ GE575.out | refine below_set ?_ GE581.out) | exact HB.out)) hb); clear HO_6; clear HO_576000; clear HO_582000; clear BK575; clear BK581; clear HB; have HO_6 := n0_; have HO_576000 := n1_; have HO_582000 := n2_; have HO599 := n3_; have BK575 := n4_; have BK581 := n5_; have HB := n6_; clear n0_ n1_ n2_ n3_ n4_ n5_ n6_; (try clear hb); (try clear hb2); (try clear hk); (try clear hi); (try clear ho0); have hnb137 := NB581_575.out; have hnc137 := NB575_581.out; have hcz138_0 : w136.cell? ⟨gb581, 0, none⟩ = some (.slice Ao15 t576.length co15) := (blk_cell BK581.out 0).trans rfl; have hfz138_0 := blk_frozen BK581.out 0) | ((with_reducible refine gate_callee (f := 26) rfl ?_); refine goesL_ (some 83) rfl rfl Try.func26 (by kernel_rfl) rfl #[.agg #[.slice Ao15 t576.length co15]] rfl (by (try simp only [List.map_toArray, List.map_cons, List.map_nil]); first | done | rfl | (simp only [List.length_drop, List.length_take]; rfl)) ?_; (with_reducible refine (nat_Nat_Text.calls kj6 (fun k_ => (k_ ≠ gb575 ∧ k_ ≠ gb581)) _ _ t576 t601 _ ?side1 A131.out).mono ?_); (case side1 => exact HO_582000.out); rintro e w139 ⟨rfl, hb⟩; refine ⟨_, rfl, ?_⟩; have n0_ := Aside0.mk (Kd.V_below (by (with_reducible repeat (first | apply Kd.V_alloc | apply Kd.V_drewN | apply Kd.V_drew)); exact HO_6.out) hb); have n1_ := Aside0.mk (Kd.V_below (by (with_reducible repeat (first | apply Kd.V_alloc | apply Kd.V_drewN | apply Kd.V_drew)); exact HO_576000.out) hb); have n2_ := Aside0.mk (Kd.V_below (by (with_reducible repeat (first | apply Kd.V_alloc | apply Kd.V_drewN | apply Kd.V_drew)); exact HO_582000.out) hb); have n3_ := Aside0.mk (Kd.V_below (by (with_reducible repeat (first | apply Kd.V_alloc | apply Kd.V_drewN | apply Kd.V_drew)); exact HO599.out) hb); have n4_ := Aside0.mk (blk_below (g := gb575) (o := .cells #[.slice Ao11 t569.length co11] 31 (0, 0)) (by (with_reducible repeat (first | refine blk_drewN ?_ _ | refine blk_drew ?_ | refine blk_alloc ?_ _)); exact BK575.out) hb); have n5_ := Aside0.mk (blk_below (g := gb581) (o := .cells #[.slice Ao15 t576.length co15] 31 (0, 0)) (by (with_reducible repeat (first | refine blk_drewN ?_ _ | refine blk_drew ?_ | refine blk_alloc ?_ _)); exact BK581.out) hb); have n6_ := Aside0.mk (below_step (by repeat (first | (with_reducible first | exact HB.out | apply below_alloc | apply pw_below_drewN | apply below_drew1 | refine below_set ?_ GE575.out | refine below_set ?_ GE581.out) | exact HB.out)) hb); clear HO_6; clear HO_576000; clear HO_582000; clear HO599; clear BK575; clear BK581; clear HB; have HO_6 := n0_; have HO_576000 := n1_; have HO_582000 := n2_; have HO599 := n3_; have BK575 := n4_; have BK581 := n5_; have HB := n6_; clear n0_ n1_ n2_ n3_ n4_ n5_ n6_; (try clear hb); (try clear hb2); (try clear hk); (try clear hi); obtain ⟨Ao140, co140, eo140⟩ := Kd.V_slice HO599.out; subst eo140) | ((with_reducible refine gate_callee (f := 27) rfl ?_); refine goesL_ (some 85) rfl rfl Try.func27 (by kernel_rfl) rfl #[.slice Ao140 t597.length co140] rfl (by (try simp only [List.map_toArray, List.map_cons, List.map_nil]); first | done | rfl | (simp only [List.length_drop, List.length_take]; rfl)) ?_; (with_reducible refine (coxswainref03_Text.calls kj6 _ _ t597 t602 _ ?side1 ?side2 A132.out).mono ?_); (case side1 => repeat (first | exact (Kd.V_reads' HO599.out).2.2 | (with_reducible refine Kd.C_alloc ?_ _) | (with_reducible refine Kd.C_drewN ?_ _) | (with_reducible refine Kd.C_drew ?_))); (case side2 => exact (Kd.V_reads' HO599.out).2.1); rintro e w141 ⟨rfl, hb⟩; refine ⟨_, rfl, ?_⟩; have n0_ := Aside0.mk (Kd.V_below (by (with_reducible repeat (first | apply Kd.V_alloc | apply Kd.V_drewN | apply Kd.V_drew)); exact HO_6.out) hb); have n1_ := Aside0.mk (Kd.V_below (by (with_reducible repeat (first | apply Kd.V_alloc | apply Kd.V_drewN | apply Kd.V_drew)); exact HO_576000.out) hb); have n2_ := Aside0.mk (Kd.V_below (by (with_reducible repeat (first | apply Kd.V_alloc | apply Kd.V_drewN | apply Kd.V_drew)); exact HO_582000.out) hb); have n3_ := Aside0.mk (Kd.V_below (by (with_reducible repeat (first | apply Kd.V_alloc | apply Kd.V_drewN | apply Kd.V_drew)); exact HO599.out) hb); have n4_ := Aside0.mk (blk_below (g := gb575) (o := .cells #[.slice Ao11 t569.length co11] 31 (0, 0)) (by (with_reducible repeat (first | refine blk_drewN ?_ _ | refine blk_drew ?_ | refine blk_alloc ?_ _)); exact BK575.out) hb); have n5_ := Aside0.mk (blk_below (g := gb581) (o := .cells #[.slice Ao15 t576.length co15] 31 (0, 0)) (by (with_reducible repeat (first | refine blk_drewN ?_ _ | refine blk_drew ?_ | refine blk_alloc ?_ _)); exact BK581.out) hb); have n6_ := Aside0.mk (below_step (by repeat (first | (with_reducible first | exact HB.out | apply below_alloc | apply pw_below_drewN | apply below_drew1 | refine below_set ?_ GE575.out | refine below_set ?_ GE581.out) | exact HB.out)) hb); clear HO_6; clear HO_576000; clear HO_582000; clear HO599; clear BK575; clear BK581; clear HB; have HO_6 := n0_; have HO_576000 := n1_; have HO_582000 := n2_; have HO599 := n3_; have BK575 := n4_; have BK581 := n5_; have HB := n6_; clear n0_ n1_ n2_ n3_ n4_ n5_ n6_; (try clear hb); (try clear hb2); (try clear hk); (try clear hi)))
                  go_meet
                  case rel => exact ⟨_, H', ⟨by have := HJ6.out; first | omega | exact Nat.le_refl _⟩, ⟨by (with_reducible repeat (first | apply Kd.V_alloc | apply Kd.V_drewN | apply Kd.V_drew)); exact HO_576000.out⟩, ⟨by (with_reducible repeat (first | apply Kd.V_alloc | apply Kd.V_drewN | apply Kd.V_drew)); exact HO_582000.out⟩, ⟨by (with_reducible repeat (first | refine blk_drewN ?_ _ | refine blk_drew ?_ | refine blk_alloc ?_ _)); exact BK575.out⟩, ⟨by (with_reducible repeat (first | refine blk_drewN ?_ _ | refine blk_drew ?_ | refine blk_alloc ?_ _)); exact BK581.out⟩, ⟨by repeat (first | (with_reducible first | exact HB.out | apply below_alloc | apply pw_below_drewN | apply below_drew1 | refine below_set ?_ GE575.out | refine below_set ?_ GE581.out) | exact HB.out)⟩⟩
                · rw [if_neg c134] at H
                  have c134b0 : ((wrap64 (t579)) == t600) = false := beq_eq_false_iff_ne.mpr c134
                  have c134b1 : ((wrap64 (t579)) != t600) = true := bne_iff_ne.mpr c134
                  obtain rfl := Option.some.inj H
                  obtain ⟨Ao142, co142, eo142⟩ := Kd.V_slice HO_6.out
                  subst eo142
                  go_wp2_with (first | ((with_reducible refine gate_callee (f := 45) rfl ?_); refine goesL_ (some 79) rfl rfl Try.func45 (by kernel_rfl) rfl #[.slice Ao142 t572.length co142, .int .i64 (wrap64 (a1))] rfl (by (try simp only [List.map_toArray, List.map_cons, List.map_nil]); first | done | rfl | (simp only [List.length_drop, List.length_take]; rfl)) ?_; (with_reducible refine (coxswainref03_Div.calls kj6 _ _ t572 (wrap64 (a1)) t597 t600 _ ?side1 ?side2 A130.out).mono ?_); (case side1 => repeat (first | exact (Kd.V_reads' HO_6.out).2.2 | (with_reducible refine Kd.C_alloc ?_ _) | (with_reducible refine Kd.C_drewN ?_ _) | (with_reducible refine Kd.C_drew ?_))); (case side2 => exact (Kd.V_reads' HO_6.out).2.1); rintro e w143 ⟨v598, rfl, ho0, hb⟩; refine ⟨_, rfl, ?_⟩; have n0_ := Aside0.mk (Kd.V_below (by (with_reducible repeat (first | apply Kd.V_alloc | apply Kd.V_drewN | apply Kd.V_drew)); exact HO_6.out) hb); have n1_ := Aside0.mk (Kd.V_below (by (with_reducible repeat (first | apply Kd.V_alloc | apply Kd.V_drewN | apply Kd.V_drew)); exact HO_576000.out) hb); have n2_ := Aside0.mk (Kd.V_below (by (with_reducible repeat (first | apply Kd.V_alloc | apply Kd.V_drewN | apply Kd.V_drew)); exact HO_582000.out) hb); have n3_ := Aside0.mk (Kd.V_lower (Kd.V_mono (ok' := fun k_ => k_ ≠ gb575 ∧ k_ ≠ gb581) ho0 (fun k_ hk_ => ⟨(Kd.freshB (g := gb575) (o := .cells #[.slice Ao11 t569.length co11] 31 (0, 0)) (by (with_reducible repeat (first | refine blk_drewN ?_ _ | refine blk_drew ?_ | refine blk_alloc ?_ _)); exact BK575.out) k_ hk_), (Kd.freshB (g := gb581) (o := .cells #[.slice Ao15 t576.length co15] 31 (0, 0)) (by (with_reducible repeat (first | refine blk_drewN ?_ _ | refine blk_drew ?_ | refine blk_alloc ?_ _)); exact BK581.out) k_ hk_)⟩)) (below_size (by repeat (first | (with_reducible first | exact HB.out | apply below_alloc | apply pw_below_drewN | apply below_drew1 | refine below_set ?_ GE575.out | refine below_set ?_ GE581.out) | exact HB.out)))); have n4_ := Aside0.mk (blk_below (g := gb575) (o := .cells #[.slice Ao11 t569.length co11] 31 (0, 0)) (by (with_reducible repeat (first | refine blk_drewN ?_ _ | refine blk_drew ?_ | refine blk_alloc ?_ _)); exact BK575.out) hb); have n5_ := Aside0.mk (blk_below (g := gb581) (o := .cells #[.slice Ao15 t576.length co15] 31 (0, 0)) (by (with_reducible repeat (first | refine blk_drewN ?_ _ | refine blk_drew ?_ | refine blk_alloc ?_ _)); exact BK581.out) hb); have n6_ := Aside0.mk (below_step (by repeat (first | (with_reducible first | exact HB.out | apply below_alloc | apply pw_below_drewN | apply below_drew1 | refine below_set ?_ GE575.out | refine below_set ?_ GE581.out) | exact HB.out)) hb); clear HO_6; clear HO_576000; clear HO_582000; clear BK575; clear BK581; clear HB; have HO_6 := n0_; have HO_576000 := n1_; have HO_582000 := n2_; have HO599 := n3_; have BK575 := n4_; have BK581 := n5_; have HB := n6_; clear n0_ n1_ n2_ n3_ n4_ n5_ n6_; (try clear hb); (try clear hb2); (try clear hk); (try clear hi); (try clear ho0); have hnb144 := NB581_575.out; have hnc144 := NB575_581.out; have hcz145_0 : w143.cell? ⟨gb581, 0, none⟩ = some (.slice Ao15 t576.length co15) := (blk_cell BK581.out 0).trans rfl; have hfz145_0 := blk_frozen BK581.out 0) | ((with_reducible refine gate_callee (f := 26) rfl ?_); refine goesL_ (some 83) rfl rfl Try.func26 (by kernel_rfl) rfl #[.agg #[.slice Ao15 t576.length co15]] rfl (by (try simp only [List.map_toArray, List.map_cons, List.map_nil]); first | done | rfl | (simp only [List.length_drop, List.length_take]; rfl)) ?_; (with_reducible refine (nat_Nat_Text.calls kj6 (fun k_ => (k_ ≠ gb575 ∧ k_ ≠ gb581)) _ _ t576 t601 _ ?side1 A131.out).mono ?_); (case side1 => exact HO_582000.out); rintro e w146 ⟨rfl, hb⟩; refine ⟨_, rfl, ?_⟩; have n0_ := Aside0.mk (Kd.V_below (by (with_reducible repeat (first | apply Kd.V_alloc | apply Kd.V_drewN | apply Kd.V_drew)); exact HO_6.out) hb); have n1_ := Aside0.mk (Kd.V_below (by (with_reducible repeat (first | apply Kd.V_alloc | apply Kd.V_drewN | apply Kd.V_drew)); exact HO_576000.out) hb); have n2_ := Aside0.mk (Kd.V_below (by (with_reducible repeat (first | apply Kd.V_alloc | apply Kd.V_drewN | apply Kd.V_drew)); exact HO_582000.out) hb); have n3_ := Aside0.mk (Kd.V_below (by (with_reducible repeat (first | apply Kd.V_alloc | apply Kd.V_drewN | apply Kd.V_drew)); exact HO599.out) hb); have n4_ := Aside0.mk (blk_below (g := gb575) (o := .cells #[.slice Ao11 t569.length co11] 31 (0, 0)) (by (with_reducible repeat (first | refine blk_drewN ?_ _ | refine blk_drew ?_ | refine blk_alloc ?_ _)); exact BK575.out) hb); have n5_ := Aside0.mk (blk_below (g := gb581) (o := .cells #[.slice Ao15 t576.length co15] 31 (0, 0)) (by (with_reducible repeat (first | refine blk_drewN ?_ _ | refine blk_drew ?_ | refine blk_alloc ?_ _)); exact BK581.out) hb); have n6_ := Aside0.mk (below_step (by repeat (first | (with_reducible first | exact HB.out | apply below_alloc | apply pw_below_drewN | apply below_drew1 | refine below_set ?_ GE575.out | refine below_set ?_ GE581.out) | exact HB.out)) hb); clear HO_6; clear HO_576000; clear HO_582000; clear HO599; clear BK575; clear BK581; clear HB; have HO_6 := n0_; have HO_576000 := n1_; have HO_582000 := n2_; have HO599 := n3_; have BK575 := n4_; have BK581 := n5_; have HB := n6_; clear n0_ n1_ n2_ n3_ n4_ n5_ n6_; (try clear hb); (try clear hb2); (try clear hk); (try clear hi); obtain ⟨Ao147, co147, eo147⟩ := Kd.V_slice HO599.out; subst eo147) | ((with_reducible refine gate_callee (f := 27) rfl ?_); refine goesL_ (some 85) rfl rfl Try.func27 (by kernel_rfl) rfl #[.slice Ao147 t597.length co147] rfl (by (try simp only [List.map_toArray, List.map_cons, List.map_nil]); first | done | rfl | (simp only [List.length_drop, List.length_take]; rfl)) ?_; (with_reducible refine (coxswainref03_Text.calls kj6 _ _ t597 t602 _ ?side1 ?side2 A132.out).mono ?_); (case side1 => repeat (first | exact (Kd.V_reads' HO599.out).2.2 | (with_reducible refine Kd.C_alloc ?_ _) | (with_reducible refine Kd.C_drewN ?_ _) | (with_reducible refine Kd.C_drew ?_))); (case side2 => exact (Kd.V_reads' HO599.out).2.1); rintro e w148 ⟨rfl, hb⟩; refine ⟨_, rfl, ?_⟩; have n0_ := Aside0.mk (Kd.V_below (by (with_reducible repeat (first | apply Kd.V_alloc | apply Kd.V_drewN | apply Kd.V_drew)); exact HO_6.out) hb); have n1_ := Aside0.mk (Kd.V_below (by (with_reducible repeat (first | apply Kd.V_alloc | apply Kd.V_drewN | apply Kd.V_drew)); exact HO_576000.out) hb); have n2_ := Aside0.mk (Kd.V_below (by (with_reducible repeat (first | apply Kd.V_alloc | apply Kd.V_drewN | apply Kd.V_drew)); exact HO_582000.out) hb); have n3_ := Aside0.mk (Kd.V_below (by (with_reducible repeat (first | apply Kd.V_alloc | apply Kd.V_drewN | apply Kd.V_drew)); exact HO599.out) hb); have n4_ := Aside0.mk (blk_below (g := gb575) (o := .cells #[.slice Ao11 t569.length co11] 31 (0, 0)) (by (with_reducible repeat (first | refine blk_drewN ?_ _ | refine blk_drew ?_ | refine blk_alloc ?_ _)); exact BK575.out) hb); have n5_ := Aside0.mk (blk_below (g := gb581) (o := .cells #[.slice Ao15 t576.length co15] 31 (0, 0)) (by (with_reducible repeat (first | refine blk_drewN ?_ _ | refine blk_drew ?_ | refine blk_alloc ?_ _)); exact BK581.out) hb); have n6_ := Aside0.mk (below_step (by repeat (first | (with_reducible first | exact HB.out | apply below_alloc | apply pw_below_drewN | apply below_drew1 | refine below_set ?_ GE575.out | refine below_set ?_ GE581.out) | exact HB.out)) hb); clear HO_6; clear HO_576000; clear HO_582000; clear HO599; clear BK575; clear BK581; clear HB; have HO_6 := n0_; have HO_576000 := n1_; have HO_582000 := n2_; have HO599 := n3_; have BK575 := n4_; have BK581 := n5_; have HB := n6_; clear n0_ n1_ n2_ n3_ n4_ n5_ n6_; (try clear hb); (try clear hb2); (try clear hk); (try clear hi)))
                  go_ret
                  exact ⟨by first | rfl | (simp [errW_none, errW_some] <;> rfl) | (simp [*, errW_none, errW_some] <;> rfl), by repeat (first | (with_reducible first | exact HB.out | apply below_alloc | apply pw_below_drewN | apply below_drew1 | refine below_set ?_ GE575.out | refine below_set ?_ GE581.out) | exact HB.out)⟩
              · rw [if_neg c133] at H
                have c133b0 : (t601.toList == t602.toList) = false := beq_eq_false_iff_ne.mpr c133
                have c133b1 : (t601.toList != t602.toList) = true := bne_iff_ne.mpr c133
                (first | rw [c133b0] | (simp only [i64_w, i32_w]; rw [c133b0]) | skip)
                obtain rfl := Option.some.inj H
                obtain ⟨Ao149, co149, eo149⟩ := Kd.V_slice HO_6.out
                subst eo149
                go_wp2_with (first | ((with_reducible refine gate_callee (f := 45) rfl ?_); refine goesL_ (some 79) rfl rfl Try.func45 (by kernel_rfl) rfl #[.slice Ao149 t572.length co149, .int .i64 (wrap64 (a1))] rfl (by (try simp only [List.map_toArray, List.map_cons, List.map_nil]); first | done | rfl | (simp only [List.length_drop, List.length_take]; rfl)) ?_; (with_reducible refine (coxswainref03_Div.calls kj6 _ _ t572 (wrap64 (a1)) t597 t600 _ ?side1 ?side2 A130.out).mono ?_); (case side1 => repeat (first | exact (Kd.V_reads' HO_6.out).2.2 | (with_reducible refine Kd.C_alloc ?_ _) | (with_reducible refine Kd.C_drewN ?_ _) | (with_reducible refine Kd.C_drew ?_))); (case side2 => exact (Kd.V_reads' HO_6.out).2.1); rintro e w150 ⟨v598, rfl, ho0, hb⟩; refine ⟨_, rfl, ?_⟩; have n0_ := Aside0.mk (Kd.V_below (by (with_reducible repeat (first | apply Kd.V_alloc | apply Kd.V_drewN | apply Kd.V_drew)); exact HO_6.out) hb); have n1_ := Aside0.mk (Kd.V_below (by (with_reducible repeat (first | apply Kd.V_alloc | apply Kd.V_drewN | apply Kd.V_drew)); exact HO_576000.out) hb); have n2_ := Aside0.mk (Kd.V_below (by (with_reducible repeat (first | apply Kd.V_alloc | apply Kd.V_drewN | apply Kd.V_drew)); exact HO_582000.out) hb); have n3_ := Aside0.mk (Kd.V_lower (Kd.V_mono (ok' := fun k_ => k_ ≠ gb575 ∧ k_ ≠ gb581) ho0 (fun k_ hk_ => ⟨(Kd.freshB (g := gb575) (o := .cells #[.slice Ao11 t569.length co11] 31 (0, 0)) (by (with_reducible repeat (first | refine blk_drewN ?_ _ | refine blk_drew ?_ | refine blk_alloc ?_ _)); exact BK575.out) k_ hk_), (Kd.freshB (g := gb581) (o := .cells #[.slice Ao15 t576.length co15] 31 (0, 0)) (by (with_reducible repeat (first | refine blk_drewN ?_ _ | refine blk_drew ?_ | refine blk_alloc ?_ _)); exact BK581.out) k_ hk_)⟩)) (below_size (by repeat (first | (with_reducible first | exact HB.out | apply below_alloc | apply pw_below_drewN | apply below_drew1 | refine below_set ?_ GE575.out | refine below_set ?_ GE581.out) | exact HB.out)))); have n4_ := Aside0.mk (blk_below (g := gb575) (o := .cells #[.slice Ao11 t569.length co11] 31 (0, 0)) (by (with_reducible repeat (first | refine blk_drewN ?_ _ | refine blk_drew ?_ | refine blk_alloc ?_ _)); exact BK575.out) hb); have n5_ := Aside0.mk (blk_below (g := gb581) (o := .cells #[.slice Ao15 t576.length co15] 31 (0, 0)) (by (with_reducible repeat (first | refine blk_drewN ?_ _ | refine blk_drew ?_ | refine blk_alloc ?_ _)); exact BK581.out) hb); have n6_ := Aside0.mk (below_step (by repeat (first | (with_reducible first | exact HB.out | apply below_alloc | apply pw_below_drewN | apply below_drew1 | refine below_set ?_ GE575.out | refine below_set ?_ GE581.out) | exact HB.out)) hb); clear HO_6; clear HO_576000; clear HO_582000; clear BK575; clear BK581; clear HB; have HO_6 := n0_; have HO_576000 := n1_; have HO_582000 := n2_; have HO599 := n3_; have BK575 := n4_; have BK581 := n5_; have HB := n6_; clear n0_ n1_ n2_ n3_ n4_ n5_ n6_; (try clear hb); (try clear hb2); (try clear hk); (try clear hi); (try clear ho0); have hnb151 := NB581_575.out; have hnc151 := NB575_581.out; have hcz152_0 : w150.cell? ⟨gb581, 0, none⟩ = some (.slice Ao15 t576.length co15) := (blk_cell BK581.out 0).trans rfl; have hfz152_0 := blk_frozen BK581.out 0) | ((with_reducible refine gate_callee (f := 26) rfl ?_); refine goesL_ (some 83) rfl rfl Try.func26 (by kernel_rfl) rfl #[.agg #[.slice Ao15 t576.length co15]] rfl (by (try simp only [List.map_toArray, List.map_cons, List.map_nil]); first | done | rfl | (simp only [List.length_drop, List.length_take]; rfl)) ?_; (with_reducible refine (nat_Nat_Text.calls kj6 (fun k_ => (k_ ≠ gb575 ∧ k_ ≠ gb581)) _ _ t576 t601 _ ?side1 A131.out).mono ?_); (case side1 => exact HO_582000.out); rintro e w153 ⟨rfl, hb⟩; refine ⟨_, rfl, ?_⟩; have n0_ := Aside0.mk (Kd.V_below (by (with_reducible repeat (first | apply Kd.V_alloc | apply Kd.V_drewN | apply Kd.V_drew)); exact HO_6.out) hb); have n1_ := Aside0.mk (Kd.V_below (by (with_reducible repeat (first | apply Kd.V_alloc | apply Kd.V_drewN | apply Kd.V_drew)); exact HO_576000.out) hb); have n2_ := Aside0.mk (Kd.V_below (by (with_reducible repeat (first | apply Kd.V_alloc | apply Kd.V_drewN | apply Kd.V_drew)); exact HO_582000.out) hb); have n3_ := Aside0.mk (Kd.V_below (by (with_reducible repeat (first | apply Kd.V_alloc | apply Kd.V_drewN | apply Kd.V_drew)); exact HO599.out) hb); have n4_ := Aside0.mk (blk_below (g := gb575) (o := .cells #[.slice Ao11 t569.length co11] 31 (0, 0)) (by (with_reducible repeat (first | refine blk_drewN ?_ _ | refine blk_drew ?_ | refine blk_alloc ?_ _)); exact BK575.out) hb); have n5_ := Aside0.mk (blk_below (g := gb581) (o := .cells #[.slice Ao15 t576.length co15] 31 (0, 0)) (by (with_reducible repeat (first | refine blk_drewN ?_ _ | refine blk_drew ?_ | refine blk_alloc ?_ _)); exact BK581.out) hb); have n6_ := Aside0.mk (below_step (by repeat (first | (with_reducible first | exact HB.out | apply below_alloc | apply pw_below_drewN | apply below_drew1 | refine below_set ?_ GE575.out | refine below_set ?_ GE581.out) | exact HB.out)) hb); clear HO_6; clear HO_576000; clear HO_582000; clear HO599; clear BK575; clear BK581; clear HB; have HO_6 := n0_; have HO_576000 := n1_; have HO_582000 := n2_; have HO599 := n3_; have BK575 := n4_; have BK581 := n5_; have HB := n6_; clear n0_ n1_ n2_ n3_ n4_ n5_ n6_; (try clear hb); (try clear hb2); (try clear hk); (try clear hi); obtain ⟨Ao154, co154, eo154⟩ := Kd.V_slice HO599.out; subst eo154) | ((with_reducible refine gate_callee (f := 27) rfl ?_); refine goesL_ (some 85) rfl rfl Try.func27 (by kernel_rfl) rfl #[.slice Ao154 t597.length co154] rfl (by (try simp only [List.map_toArray, List.map_cons, List.map_nil]); first | done | rfl | (simp only [List.length_drop, List.length_take]; rfl)) ?_; (with_reducible refine (coxswainref03_Text.calls kj6 _ _ t597 t602 _ ?side1 ?side2 A132.out).mono ?_); (case side1 => repeat (first | exact (Kd.V_reads' HO599.out).2.2 | (with_reducible refine Kd.C_alloc ?_ _) | (with_reducible refine Kd.C_drewN ?_ _) | (with_reducible refine Kd.C_drew ?_))); (case side2 => exact (Kd.V_reads' HO599.out).2.1); rintro e w155 ⟨rfl, hb⟩; refine ⟨_, rfl, ?_⟩; have n0_ := Aside0.mk (Kd.V_below (by (with_reducible repeat (first | apply Kd.V_alloc | apply Kd.V_drewN | apply Kd.V_drew)); exact HO_6.out) hb); have n1_ := Aside0.mk (Kd.V_below (by (with_reducible repeat (first | apply Kd.V_alloc | apply Kd.V_drewN | apply Kd.V_drew)); exact HO_576000.out) hb); have n2_ := Aside0.mk (Kd.V_below (by (with_reducible repeat (first | apply Kd.V_alloc | apply Kd.V_drewN | apply Kd.V_drew)); exact HO_582000.out) hb); have n3_ := Aside0.mk (Kd.V_below (by (with_reducible repeat (first | apply Kd.V_alloc | apply Kd.V_drewN | apply Kd.V_drew)); exact HO599.out) hb); have n4_ := Aside0.mk (blk_below (g := gb575) (o := .cells #[.slice Ao11 t569.length co11] 31 (0, 0)) (by (with_reducible repeat (first | refine blk_drewN ?_ _ | refine blk_drew ?_ | refine blk_alloc ?_ _)); exact BK575.out) hb); have n5_ := Aside0.mk (blk_below (g := gb581) (o := .cells #[.slice Ao15 t576.length co15] 31 (0, 0)) (by (with_reducible repeat (first | refine blk_drewN ?_ _ | refine blk_drew ?_ | refine blk_alloc ?_ _)); exact BK581.out) hb); have n6_ := Aside0.mk (below_step (by repeat (first | (with_reducible first | exact HB.out | apply below_alloc | apply pw_below_drewN | apply below_drew1 | refine below_set ?_ GE575.out | refine below_set ?_ GE581.out) | exact HB.out)) hb); clear HO_6; clear HO_576000; clear HO_582000; clear HO599; clear BK575; clear BK581; clear HB; have HO_6 := n0_; have HO_576000 := n1_; have HO_582000 := n2_; have HO599 := n3_; have BK575 := n4_; have BK581 := n5_; have HB := n6_; clear n0_ n1_ n2_ n3_ n4_ n5_ n6_; (try clear hb); (try clear hb2); (try clear hk); (try clear hi)))
                go_ret
                exact ⟨by first | rfl | (simp [errW_none, errW_some] <;> rfl) | (simp [*, errW_none, errW_some] <;> rfl), by repeat (first | (with_reducible first | exact HB.out | apply below_alloc | apply pw_below_drewN | apply below_drew1 | refine below_set ?_ GE575.out | refine below_set ?_ GE581.out) | exact HB.out)⟩
            · replace c129 := Bool.eq_false_iff.mpr c129
              subst c129
              have H1 : (coxswainlaw03_NatOne.j1 kj6 t569) = some r := by rw [if_neg (show ¬ (false = true) by decide)] at H; exact H
              clear H
              have H := H1
              clear H1
              have H' := Aside0.mk H
              clear H
              go_wp2
              go_meet
              case rel => exact ⟨_, H', ⟨by have := HJ6.out; first | omega | exact Nat.le_refl _⟩, ⟨by (with_reducible repeat (first | apply Kd.V_alloc | apply Kd.V_drewN | apply Kd.V_drew)); exact HO_576000.out⟩, ⟨by (with_reducible repeat (first | apply Kd.V_alloc | apply Kd.V_drewN | apply Kd.V_drew)); exact HO_582000.out⟩, ⟨by (with_reducible repeat (first | refine blk_drewN ?_ _ | refine blk_drew ?_ | refine blk_alloc ?_ _)); exact BK575.out⟩, ⟨by (with_reducible repeat (first | refine blk_drewN ?_ _ | refine blk_drew ?_ | refine blk_alloc ?_ _)); exact BK581.out⟩, ⟨by repeat (first | (with_reducible first | exact HB.out | apply below_alloc | apply pw_below_drewN | apply below_drew1 | refine below_set ?_ GE575.out | refine below_set ?_ GE581.out) | exact HB.out)⟩⟩
          case rest =>
            clear HC128
            try clear c1
            try clear c2
            try clear p2
            try clear c3
            try clear c4
            try clear c5
            try clear c6
            try clear p6
            try clear c7
            try clear c8
            try clear c10
            try clear c11
            try clear c12
            try clear c13
            try clear c14
            try clear c15
            try clear c16
            try clear c18
            try clear c18b0
            try clear c18b1
            try clear c18b2
            try clear c19
            try clear c20
            try clear c22
            try clear c22b0
            try clear c22b1
            try clear c24
            try clear c24b0
            try clear c24b1
            try clear c24b2
            try clear c25
            try clear c26
            try clear c27
            try clear c31
            try clear c34
            try clear c34b0
            try clear c34b1
            try clear c37
            try clear c45
            try clear c50
            try clear c60
            try clear p64
            try clear c66
            try clear c67
            try clear c67b0
            try clear c67b1
            try clear c70
            try clear c70b0
            try clear c70b1
            try clear c72
            try clear c72b0
            try clear c72b1
            try clear c72b2
            try clear c73
            try clear c84
            try clear c84b0
            try clear c84b1
            try clear c87
            try clear c102
            try clear c114
            try clear c121
            try clear c124
            try clear c127
            try clear c129
            try clear c133
            try clear c133b0
            try clear c133b1
            try clear c134
            try clear c134b0
            try clear c134b1
            try clear c137
            try clear c144
            try clear c151
            try clear hcz103_0
            try clear hcz105_0
            try clear hcz109_0
            try clear hcz111_0
            try clear hcz115_0
            try clear hcz117_0
            try clear hcz122_0
            try clear hcz125_0
            try clear hcz12_0
            try clear hcz138_0
            try clear hcz145_0
            try clear hcz152_0
            try clear hcz17_0
            try clear hcz26_0
            try clear hcz30_0
            try clear hcz38_0
            try clear hcz42_0
            try clear hcz44_0
            try clear hcz47_0
            try clear hcz51_0
            try clear hcz55_0
            try clear hcz57_0
            try clear hcz61_0
            try clear hcz74_0
            try clear hcz76_0
            try clear hcz80_0
            try clear hcz88_0
            try clear hcz90_0
            try clear hcz94_0
            try clear hcz96_0
            try clear hcz99_0
            try clear hfz103_0
            try clear hfz105_0
            try clear hfz109_0
            try clear hfz111_0
            try clear hfz115_0
            try clear hfz117_0
            try clear hfz122_0
            try clear hfz125_0
            try clear hfz12_0
            try clear hfz138_0
            try clear hfz145_0
            try clear hfz152_0
            try clear hfz17_0
            try clear hfz26_0
            try clear hfz30_0
            try clear hfz38_0
            try clear hfz42_0
            try clear hfz44_0
            try clear hfz47_0
            try clear hfz51_0
            try clear hfz55_0
            try clear hfz57_0
            try clear hfz61_0
            try clear hfz74_0
            try clear hfz76_0
            try clear hfz80_0
            try clear hfz88_0
            try clear hfz90_0
            try clear hfz94_0
            try clear hfz96_0
            try clear hfz99_0
            try clear p2
            obtain ⟨kq, HA, HJ127, HO_576000, HO_582000, BK575, BK581, HB⟩ := hcut
            cases kq with
            | zero => exact absurd HA.out (by simp [coxswainlaw03_NatOne.j1])
            | succ kj127 =>
              have H := HA.out
              clear HA
              simp only [coxswainlaw03_NatOne.j1] at H
              replace H := Option.bind_eq_some_iff.mp H
              obtain ⟨⟨t603, t604⟩, A1560, H⟩ := H
              replace H : ((nat_Nat_Bits.f t569).bind fun t605 => (if (t604 == (decide (t605 ≤ 64))) = true then (if t604 = true then ((nat_Of.f kj127 t603).bind fun t606 => ((nat_Nat_Cmp.f kj127 t606 t569).bind fun t609 => (if t609 = 0 then (some true) else (some false)))) else (some (t603 == 0))) else (some false))) = some r := H
              have A156 := Aside0.mk A1560
              clear A1560
              replace H := Option.bind_eq_some_iff.mp H
              obtain ⟨t605, A1570, H⟩ := H
              replace H : (if (t604 == (decide (t605 ≤ 64))) = true then (if t604 = true then ((nat_Of.f kj127 t603).bind fun t606 => ((nat_Nat_Cmp.f kj127 t606 t569).bind fun t609 => (if t609 = 0 then (some true) else (some false)))) else (some (t603 == 0))) else (some false)) = some r := H
              have A157 := Aside0.mk A1570
              clear A1570
              by_cases c158 : (t604 == (decide (t605 ≤ 64))) = true
              · rw [if_pos c158] at H
                have c158b0 : (t604 == (decide (t605 ≤ 64))) = true := c158
                (try (have c158b1 : decide (t604 = (decide (t605 ≤ 64))) = true := by simpa using c158))
                (try (have c158b2 : (t604 == (decide (t605 ≤ 64))) = true := by simpa using c158))
                clear c158
                by_cases c159 : t604 = true
                · subst c159
                  have H1 : ((nat_Of.f kj127 t603).bind fun t606 => ((nat_Nat_Cmp.f kj127 t606 t569).bind fun t609 => (if t609 = 0 then (some true) else (some false)))) = some r := by rw [if_pos rfl] at H; exact H
                  clear H
                  have H := H1
                  clear H1
                  replace H := Option.bind_eq_some_iff.mp H
                  obtain ⟨t606, A1600, H⟩ := H
                  replace H : ((nat_Nat_Cmp.f kj127 t606 t569).bind fun t609 => (if t609 = 0 then (some true) else (some false))) = some r := H
                  have A160 := Aside0.mk A1600
                  clear A1600
                  replace H := Option.bind_eq_some_iff.mp H
                  obtain ⟨t609, A1610, H⟩ := H
                  replace H : (if t609 = 0 then (some true) else (some false)) = some r := H
                  have A161 := Aside0.mk A1610
                  clear A1610
                  by_cases c162 : t609 = 0
                  · rw [if_pos c162] at H
                    have c162b0 : (t609 == 0) = true := beq_iff_eq.mpr c162
                    have c162b1 : (t609 != 0) = false := bne_eq_false_iff_eq.mpr c162
                    clear c162
                    obtain rfl := Option.some.inj H
                    have hnb163 := NB575_581.out
                    have hnc163 := NB581_575.out
                    have hcz164_0 : wc.cell? ⟨gb575, 0, none⟩ = some (.slice Ao11 t569.length co11) := (blk_cell BK575.out 0).trans rfl
                    have hfz164_0 := blk_frozen BK575.out 0
                    try go_wp2_with (first | ((with_reducible refine gate_callee (f := 32) rfl ?_); refine goesL_ (some 95) rfl rfl Try.func32 (by kernel_rfl) rfl #[.agg #[.slice Ao11 t569.length co11]] rfl (by (try simp only [List.map_toArray, List.map_cons, List.map_nil]); first | done | rfl | (simp only [List.length_drop, List.length_take]; rfl)) ?_; (with_reducible refine (nat_Nat_Small.calls _ _ t569 t603 true _ ?side1 ?side2 A156.out).mono ?_); (case side1 => repeat (first | exact (Kd.V_reads' HO_576000.out).2.2 | (with_reducible refine Kd.C_alloc ?_ _) | (with_reducible refine Kd.C_drewN ?_ _) | (with_reducible refine Kd.C_drew ?_))); (case side2 => exact (Kd.V_reads' HO_576000.out).2.1); rintro e w165 ⟨rfl, hb⟩; refine ⟨_, rfl, ?_⟩; have n0_ := Aside0.mk (Kd.V_below (by (with_reducible repeat (first | apply Kd.V_alloc | apply Kd.V_drewN | apply Kd.V_drew)); exact HO_576000.out) hb); have n1_ := Aside0.mk (Kd.V_below (by (with_reducible repeat (first | apply Kd.V_alloc | apply Kd.V_drewN | apply Kd.V_drew)); exact HO_582000.out) hb); have n2_ := Aside0.mk (blk_below (g := gb575) (o := .cells #[.slice Ao11 t569.length co11] 31 (0, 0)) (by (with_reducible repeat (first | refine blk_drewN ?_ _ | refine blk_drew ?_ | refine blk_alloc ?_ _)); exact BK575.out) hb); have n3_ := Aside0.mk (blk_below (g := gb581) (o := .cells #[.slice Ao15 t576.length co15] 31 (0, 0)) (by (with_reducible repeat (first | refine blk_drewN ?_ _ | refine blk_drew ?_ | refine blk_alloc ?_ _)); exact BK581.out) hb); have n4_ := Aside0.mk (below_step (by repeat (first | (with_reducible first | exact HB.out | apply below_alloc | apply pw_below_drewN | apply below_drew1 | refine below_set ?_ GE575.out | refine below_set ?_ GE581.out) | exact HB.out)) hb); clear HO_576000; clear HO_582000; clear BK575; clear BK581; clear HB; have HO_576000 := n0_; have HO_582000 := n1_; have BK575 := n2_; have BK581 := n3_; have HB := n4_; clear n0_ n1_ n2_ n3_ n4_; (try clear hb); (try clear hb2); (try clear hk); (try clear hi)))
                    have n0_ := Aside0.mk (Kd.V_drew HO_576000.out)
                    have n1_ := Aside0.mk (Kd.V_drew HO_582000.out)
                    have n2_ := Aside0.mk (blk_drew BK575.out)
                    have n3_ := Aside0.mk (blk_drew BK581.out)
                    have n4_ := Aside0.mk (below_drew1 HB.out)
                    clear HO_576000
                    clear HO_582000
                    clear BK575
                    clear BK581
                    clear HB
                    have HO_576000 := n0_
                    have HO_582000 := n1_
                    have BK575 := n2_
                    have BK581 := n3_
                    have HB := n4_
                    clear n0_ n1_ n2_ n3_ n4_
                    refine start_ (n := 24) (S := fun w' => w'.cell? ⟨gb575, 0, none⟩ = some (.slice Ao11 t569.length co11)) (ds := []) #[false, false, false, false, false, false, false, false, false, false, false, false, false, false, false, false, false, false, false, false, false, false, false, false] (by kernel_rfl) rfl rfl ((blk_cell BK575.out 0).trans rfl) (fun hHeld => ?_); refine with_tabW coxswainlaw03_NatOne.tab12 coxswainlaw03_NatOne.bits12 (fun HT_ HW_ => ?_)
                    generalize w165.drew = w166 at HO_576000 HO_582000 BK575 BK581 HB hHeld ⊢
                    refine pure_ (i := 0) (N := some 98) (v := ?_) (a' := ?_) #[true, false, false, false, false, false, false, false, false, false, false, false, false, false, false, false, false, false, false, false, false, false, false, false] rfl rfl (any_of HT_.out (by kernel_rfl)) (fun _ _ _ h => h) (Or.inl ⟨by rfl, ?_⟩) ?_ ?_
                    rotate_left
                    · intro w'
                      go_simp
                      with_reducible rfl
                    rotate_left
                    · simp only [Act.put, List.setIfInBounds_toArray, List.set_cons_zero, List.set_cons_succ, i64_w, i32_w]
                      rfl
                    refine take_ (i := 1) (N := some 99) (v := ?_) (a' := ?_) #[true, true, false, false, false, false, false, false, false, false, false, false, false, false, false, false, false, false, false, false, false, false, false, false] rfl rfl (take_ofW HT_.out HW_.out (by kernel_rfl)) (fun _ _ _ h => h) (Or.inl ⟨by rfl, ?_⟩) hHeld ?_ ?_
                    rotate_left
                    · intro w' s0
                      go_simp
                      with_reducible rfl
                    rotate_left
                    · simp only [Act.put, List.setIfInBounds_toArray, List.set_cons_zero, List.set_cons_succ, i64_w, i32_w]
                      rfl
                    refine one_ (i := 2) (N := some 100) #[true, true, true, false, false, false, false, false, false, false, false, false, false, false, false, false, false, false, false, false, false, false, false, false] rfl rfl (one_of HT_.out (by kernel_rfl)) (by decide) (fun K hK => ?_)
                    refine goes_ Try.func22 (by kernel_rfl) rfl #[.agg #[.slice Ao11 t569.length co11]] (by rfl) rfl rfl (by (try simp only [List.map_toArray, List.map_cons, List.map_nil]); first | done | rfl | (simp only [List.length_drop, List.length_take]; rfl)) ?_
                    with_reducible refine (nat_Nat_Bits.calls _ _ t569 t605 _ ?side1 ?side2 A157.out).mono ?_
                    (case side1 => repeat (first | exact (Kd.V_reads' HO_576000.out).2.2 | (with_reducible refine Kd.C_alloc ?_ _) | (with_reducible refine Kd.C_drewN ?_ _) | (with_reducible refine Kd.C_drew ?_)))
                    (case side2 => exact (Kd.V_reads' HO_576000.out).2.1)
                    rintro e w167 ⟨rfl, hb⟩
                    refine ⟨_, rfl, ?_⟩
                    have n0_ := Aside0.mk (Kd.V_below (by (with_reducible repeat (first | apply Kd.V_alloc | apply Kd.V_drewN | apply Kd.V_drew)); exact HO_576000.out) hb)
                    have n1_ := Aside0.mk (Kd.V_below (by (with_reducible repeat (first | apply Kd.V_alloc | apply Kd.V_drewN | apply Kd.V_drew)); exact HO_582000.out) hb)
                    have n2_ := Aside0.mk (blk_below (g := gb575) (o := .cells #[.slice Ao11 t569.length co11] 31 (0, 0)) (by (with_reducible repeat (first | refine blk_drewN ?_ _ | refine blk_drew ?_ | refine blk_alloc ?_ _)); exact BK575.out) hb)
                    have n3_ := Aside0.mk (blk_below (g := gb581) (o := .cells #[.slice Ao15 t576.length co15] 31 (0, 0)) (by (with_reducible repeat (first | refine blk_drewN ?_ _ | refine blk_drew ?_ | refine blk_alloc ?_ _)); exact BK581.out) hb)
                    have n4_ := Aside0.mk (below_step (by repeat (first | (with_reducible first | exact HB.out | apply below_alloc | apply pw_below_drewN | apply below_drew1 | refine below_set ?_ GE575.out | refine below_set ?_ GE581.out) | exact HB.out)) hb)
                    clear HO_576000
                    clear HO_582000
                    clear BK575
                    clear BK581
                    clear HB
                    have HO_576000 := n0_
                    have HO_582000 := n1_
                    have BK575 := n2_
                    have BK581 := n3_
                    have HB := n4_
                    clear n0_ n1_ n2_ n3_ n4_
                    (try clear hb)
                    (try clear hb2)
                    (try clear hk)
                    (try clear hi)
                    refine hK.out _ _ ((blk_cell BK575.out 0).trans rfl) (fun hHeld => ?_)
                    clear hK K
                    refine norm_ (a' := ?_) ?_ ?_
                    rotate_left
                    · show Act.put _ (some 100) _ = _
                      simp only [Act.put, List.setIfInBounds_toArray, List.set_cons_zero, List.set_cons_succ, i64_w, i32_w]
                      rfl
                    refine pure_ (i := 3) (N := some 101) (v := ?_) (a' := ?_) #[true, true, true, true, false, false, false, false, false, false, false, false, false, false, false, false, false, false, false, false, false, false, false, false] rfl rfl (any_of HT_.out (by kernel_rfl)) (fun _ _ _ h => h) (Or.inl ⟨by rfl, ?_⟩) ?_ ?_
                    rotate_left
                    · intro w'
                      go_simp
                      with_reducible rfl
                    rotate_left
                    · simp only [Act.put, List.setIfInBounds_toArray, List.set_cons_zero, List.set_cons_succ, i64_w, i32_w]
                      rfl
                    refine pure_ (i := 4) (N := some 102) (v := ?_) (a' := ?_) #[true, true, true, true, true, false, false, false, false, false, false, false, false, false, false, false, false, false, false, false, false, false, false, false] rfl rfl (any_of HT_.out (by kernel_rfl)) (fun _ _ _ h => h) (Or.inl ⟨by rfl, ?_⟩) ?_ ?_
                    rotate_left
                    · intro w'
                      go_simp
                      with_reducible rfl
                    rotate_left
                    · simp only [Act.put, List.setIfInBounds_toArray, List.set_cons_zero, List.set_cons_succ, i64_w, i32_w]
                      rfl
                    refine pure_ (i := 5) (N := some 103) (v := ?_) (a' := ?_) #[true, true, true, true, true, true, false, false, false, false, false, false, false, false, false, false, false, false, false, false, false, false, false, false] rfl rfl (any_of HT_.out (by kernel_rfl)) (fun _ _ _ h => h) (Or.inl ⟨by rfl, ?_⟩) ?_ ?_
                    rotate_left
                    · intro w'
                      go_simp
                      with_reducible rfl
                    rotate_left
                    · simp only [Act.put, List.setIfInBounds_toArray, List.set_cons_zero, List.set_cons_succ, i64_w, i32_w]
                      rfl
                    refine pure_ (i := 6) (N := some 104) (v := ?_) (a' := ?_) #[true, true, true, true, true, true, true, false, false, false, false, false, false, false, false, false, false, false, false, false, false, false, false, false] rfl rfl (any_of HT_.out (by kernel_rfl)) (fun _ _ _ h => h) (Or.inl ⟨by rfl, ?_⟩) ?_ ?_
                    rotate_left
                    · intro w'
                      go_simp
                      with_reducible rfl
                    rotate_left
                    · simp only [Act.put, List.setIfInBounds_toArray, List.set_cons_zero, List.set_cons_succ, i64_w, i32_w]
                      rfl
                    refine pure_ (i := 7) (N := some 105) (v := ?_) (a' := ?_) #[true, true, true, true, true, true, true, true, false, false, false, false, false, false, false, false, false, false, false, false, false, false, false, false] rfl rfl (any_of HT_.out (by kernel_rfl)) (fun _ _ _ h => h) (Or.inl ⟨by rfl, ?_⟩) ?_ ?_
                    rotate_left
                    · intro w'
                      go_simp
                      with_reducible rfl
                    rotate_left
                    · simp only [Act.put, List.setIfInBounds_toArray, List.set_cons_zero, List.set_cons_succ, i64_w, i32_w]
                      rfl
                    refine pure_ (i := 8) (N := some 106) (v := ?_) (a' := ?_) #[true, true, true, true, true, true, true, true, true, false, false, false, false, false, false, false, false, false, false, false, false, false, false, false] rfl rfl (any_of HT_.out (by kernel_rfl)) (fun _ _ _ h => h) (Or.inl ⟨by rfl, ?_⟩) ?_ ?_
                    rotate_left
                    · intro w'
                      go_simp
                      with_reducible rfl
                    rotate_left
                    · simp only [Act.put, List.setIfInBounds_toArray, List.set_cons_zero, List.set_cons_succ, i64_w, i32_w]
                      rfl
                    refine take_ (i := 10) (N := some 108) (v := ?_) (a' := ?_) #[true, true, true, true, true, true, true, true, true, false, true, false, false, false, false, false, false, false, false, false, false, false, false, false] rfl rfl (take_ofW HT_.out HW_.out (by kernel_rfl)) (fun _ _ _ h => h) (Or.inl ⟨by rfl, ?_⟩) hHeld ?_ ?_
                    rotate_left
                    · intro w' s0
                      go_simp
                      with_reducible rfl
                    rotate_left
                    · simp only [Act.put, List.setIfInBounds_toArray, List.set_cons_zero, List.set_cons_succ, i64_w, i32_w]
                      rfl
                    refine one_ (i := 9) (N := some 107) #[true, true, true, true, true, true, true, true, true, true, true, false, false, false, false, false, false, false, false, false, false, false, false, false] rfl rfl (one_of HT_.out (by kernel_rfl)) (by decide) (fun K hK => ?_)
                    refine goes_ Try.func30 (by kernel_rfl) rfl #[.int .u64 t603] (by rfl) rfl rfl (by (try simp only [List.map_toArray, List.map_cons, List.map_nil]); first | done | rfl | (simp only [List.length_drop, List.length_take]; rfl)) ?_
                    with_reducible refine (nat_Of.calls kj127 t603 t606 _ A160.out).mono ?_
                    rintro e w168 ⟨v607, rfl, ho0, hb⟩
                    refine ⟨_, rfl, ?_⟩
                    have n0_ := Aside0.mk (Kd.V_below (by (with_reducible repeat (first | apply Kd.V_alloc | apply Kd.V_drewN | apply Kd.V_drew)); exact HO_576000.out) hb)
                    have n1_ := Aside0.mk (Kd.V_below (by (with_reducible repeat (first | apply Kd.V_alloc | apply Kd.V_drewN | apply Kd.V_drew)); exact HO_582000.out) hb)
                    have n2_ := Aside0.mk (Kd.V_lower (Kd.V_mono (ok' := fun k_ => k_ ≠ gb575 ∧ k_ ≠ gb581) ho0 (fun k_ hk_ => ⟨(Kd.freshB (g := gb575) (o := .cells #[.slice Ao11 t569.length co11] 31 (0, 0)) (by (with_reducible repeat (first | refine blk_drewN ?_ _ | refine blk_drew ?_ | refine blk_alloc ?_ _)); exact BK575.out) k_ hk_), (Kd.freshB (g := gb581) (o := .cells #[.slice Ao15 t576.length co15] 31 (0, 0)) (by (with_reducible repeat (first | refine blk_drewN ?_ _ | refine blk_drew ?_ | refine blk_alloc ?_ _)); exact BK581.out) k_ hk_)⟩)) (below_size (by repeat (first | (with_reducible first | exact HB.out | apply below_alloc | apply pw_below_drewN | apply below_drew1 | refine below_set ?_ GE575.out | refine below_set ?_ GE581.out) | exact HB.out))))
                    have n3_ := Aside0.mk (blk_below (g := gb575) (o := .cells #[.slice Ao11 t569.length co11] 31 (0, 0)) (by (with_reducible repeat (first | refine blk_drewN ?_ _ | refine blk_drew ?_ | refine blk_alloc ?_ _)); exact BK575.out) hb)
                    have n4_ := Aside0.mk (blk_below (g := gb581) (o := .cells #[.slice Ao15 t576.length co15] 31 (0, 0)) (by (with_reducible repeat (first | refine blk_drewN ?_ _ | refine blk_drew ?_ | refine blk_alloc ?_ _)); exact BK581.out) hb)
                    have n5_ := Aside0.mk (below_step (by repeat (first | (with_reducible first | exact HB.out | apply below_alloc | apply pw_below_drewN | apply below_drew1 | refine below_set ?_ GE575.out | refine below_set ?_ GE581.out) | exact HB.out)) hb)
                    clear HO_576000
                    clear HO_582000
                    clear BK575
                    clear BK581
                    clear HB
                    have HO_576000 := n0_
                    have HO_582000 := n1_
                    have HO608 := n2_
                    have BK575 := n3_
                    have BK581 := n4_
                    have HB := n5_
                    clear n0_ n1_ n2_ n3_ n4_ n5_
                    (try clear hb)
                    (try clear hb2)
                    (try clear hk)
                    (try clear hi)
                    (try clear ho0)
                    obtain ⟨Ao169, co169, eo169⟩ := Kd.V_slice HO608.out
                    (first | subst eo169 | (injection eo169 with f1_ f2_ f3_; have f4_ := f1_.symm; have f5_ := f3_.symm; clear f1_ f2_ f3_; subst f4_; subst f5_))
                    refine hK.out _ _ ((blk_cell BK575.out 0).trans rfl) (fun hHeld => ?_)
                    clear hK K
                    refine norm_ (a' := ?_) ?_ ?_
                    rotate_left
                    · show Act.put _ (some 107) _ = _
                      simp only [Act.put, List.setIfInBounds_toArray, List.set_cons_zero, List.set_cons_succ, i64_w, i32_w]
                      rfl
                    refine one_ (i := 11) (N := some 109) #[true, true, true, true, true, true, true, true, true, true, true, true, false, false, false, false, false, false, false, false, false, false, false, false] rfl rfl (one_of HT_.out (by kernel_rfl)) (by decide) (fun K hK => ?_)
                    refine goes_ Try.func33 (by kernel_rfl) rfl #[.agg #[.slice Ao169 t606.length co169], .agg #[.slice Ao11 t569.length co11]] (by rfl) rfl rfl (by (try simp only [List.map_toArray, List.map_cons, List.map_nil]); first | done | rfl | (simp only [List.length_drop, List.length_take]; rfl)) ?_
                    with_reducible refine (nat_Nat_Cmp.calls kj127 _ _ t606 _ _ t569 t609 _ ?side1 ?side2 ?side3 ?side4 A161.out).mono ?_
                    (case side1 => repeat (first | exact (Kd.V_reads' HO608.out).2.2 | (with_reducible refine Kd.C_alloc ?_ _) | (with_reducible refine Kd.C_drewN ?_ _) | (with_reducible refine Kd.C_drew ?_)))
                    (case side2 => exact (Kd.V_reads' HO608.out).2.1)
                    (case side3 => repeat (first | exact (Kd.V_reads' HO_576000.out).2.2 | (with_reducible refine Kd.C_alloc ?_ _) | (with_reducible refine Kd.C_drewN ?_ _) | (with_reducible refine Kd.C_drew ?_)))
                    (case side4 => exact (Kd.V_reads' HO_576000.out).2.1)
                    rintro e w170 ⟨rfl, hb⟩
                    refine ⟨_, rfl, ?_⟩
                    have n0_ := Aside0.mk (Kd.V_below (by (with_reducible repeat (first | apply Kd.V_alloc | apply Kd.V_drewN | apply Kd.V_drew)); exact HO_576000.out) hb)
                    have n1_ := Aside0.mk (Kd.V_below (by (with_reducible repeat (first | apply Kd.V_alloc | apply Kd.V_drewN | apply Kd.V_drew)); exact HO_582000.out) hb)
                    have n2_ := Aside0.mk (Kd.V_below (by (with_reducible repeat (first | apply Kd.V_alloc | apply Kd.V_drewN | apply Kd.V_drew)); exact HO608.out) hb)
                    have n3_ := Aside0.mk (blk_below (g := gb575) (o := .cells #[.slice Ao11 t569.length co11] 31 (0, 0)) (by (with_reducible repeat (first | refine blk_drewN ?_ _ | refine blk_drew ?_ | refine blk_alloc ?_ _)); exact BK575.out) hb)
                    have n4_ := Aside0.mk (blk_below (g := gb581) (o := .cells #[.slice Ao15 t576.length co15] 31 (0, 0)) (by (with_reducible repeat (first | refine blk_drewN ?_ _ | refine blk_drew ?_ | refine blk_alloc ?_ _)); exact BK581.out) hb)
                    have n5_ := Aside0.mk (below_step (by repeat (first | (with_reducible first | exact HB.out | apply below_alloc | apply pw_below_drewN | apply below_drew1 | refine below_set ?_ GE575.out | refine below_set ?_ GE581.out) | exact HB.out)) hb)
                    clear HO_576000
                    clear HO_582000
                    clear HO608
                    clear BK575
                    clear BK581
                    clear HB
                    have HO_576000 := n0_
                    have HO_582000 := n1_
                    have HO608 := n2_
                    have BK575 := n3_
                    have BK581 := n4_
                    have HB := n5_
                    clear n0_ n1_ n2_ n3_ n4_ n5_
                    (try clear hb)
                    (try clear hb2)
                    (try clear hk)
                    (try clear hi)
                    refine hK.out _ _ ((blk_cell BK575.out 0).trans rfl) (fun hHeld => ?_)
                    clear hK K
                    refine norm_ (a' := ?_) ?_ ?_
                    rotate_left
                    · show Act.put _ (some 109) _ = _
                      simp only [Act.put, List.setIfInBounds_toArray, List.set_cons_zero, List.set_cons_succ, i64_w, i32_w]
                      rfl
                    refine pure_ (i := 12) (N := some 110) (v := ?_) (a' := ?_) #[true, true, true, true, true, true, true, true, true, true, true, true, true, false, false, false, false, false, false, false, false, false, false, false] rfl rfl (any_of HT_.out (by kernel_rfl)) (fun _ _ _ h => h) (Or.inl ⟨by rfl, ?_⟩) ?_ ?_
                    rotate_left
                    · intro w'
                      go_simp
                      with_reducible rfl
                    rotate_left
                    · simp only [Act.put, List.setIfInBounds_toArray, List.set_cons_zero, List.set_cons_succ, i64_w, i32_w]
                      rfl
                    refine pure_ (i := 13) (N := some 111) (v := ?_) (a' := ?_) #[true, true, true, true, true, true, true, true, true, true, true, true, true, true, false, false, false, false, false, false, false, false, false, false] rfl rfl (any_of HT_.out (by kernel_rfl)) (fun _ _ _ h => h) (Or.inl ⟨by rfl, ?_⟩) ?_ ?_
                    rotate_left
                    · intro w'
                      go_simp
                      with_reducible rfl
                    rotate_left
                    · simp only [Act.put, List.setIfInBounds_toArray, List.set_cons_zero, List.set_cons_succ, i64_w, i32_w]
                      rfl
                    refine pure_ (i := 14) (N := some 112) (v := ?_) (a' := ?_) #[true, true, true, true, true, true, true, true, true, true, true, true, true, true, true, false, false, false, false, false, false, false, false, false] rfl rfl (any_of HT_.out (by kernel_rfl)) (fun _ _ _ h => h) (Or.inl ⟨by rfl, ?_⟩) ?_ ?_
                    rotate_left
                    · intro w'
                      go_simp
                      with_reducible rfl
                    rotate_left
                    · simp only [Act.put, List.setIfInBounds_toArray, List.set_cons_zero, List.set_cons_succ, i64_w, i32_w]
                      rfl
                    refine pure_ (i := 15) (N := some 113) (v := undef) (a' := ?_) #[true, true, true, true, true, true, true, true, true, true, true, true, true, true, true, true, false, false, false, false, false, false, false, false] rfl rfl (any_of HT_.out (by kernel_rfl)) (fun _ _ _ h => h) (Or.inr ⟨by rfl, rfl⟩) ?_ ?_
                    rotate_left
                    · simp only [Act.put, List.setIfInBounds_toArray, List.set_cons_zero, List.set_cons_succ, i64_w, i32_w]
                      rfl
                    refine pure_ (i := 16) (N := some 114) (v := undef) (a' := ?_) #[true, true, true, true, true, true, true, true, true, true, true, true, true, true, true, true, true, false, false, false, false, false, false, false] rfl rfl (any_of HT_.out (by kernel_rfl)) (fun _ _ _ h => h) (Or.inr ⟨by rfl, rfl⟩) ?_ ?_
                    rotate_left
                    · simp only [Act.put, List.setIfInBounds_toArray, List.set_cons_zero, List.set_cons_succ, i64_w, i32_w]
                      rfl
                    refine pure_ (i := 17) (N := some 115) (v := undef) (a' := ?_) #[true, true, true, true, true, true, true, true, true, true, true, true, true, true, true, true, true, true, false, false, false, false, false, false] rfl rfl (any_of HT_.out (by kernel_rfl)) (fun _ _ _ h => h) (Or.inr ⟨by rfl, rfl⟩) ?_ ?_
                    rotate_left
                    · simp only [Act.put, List.setIfInBounds_toArray, List.set_cons_zero, List.set_cons_succ, i64_w, i32_w]
                      rfl
                    refine pure_ (i := 18) (N := some 116) (v := undef) (a' := ?_) #[true, true, true, true, true, true, true, true, true, true, true, true, true, true, true, true, true, true, true, false, false, false, false, false] rfl rfl (any_of HT_.out (by kernel_rfl)) (fun _ _ _ h => h) (Or.inr ⟨by rfl, rfl⟩) ?_ ?_
                    rotate_left
                    · simp only [Act.put, List.setIfInBounds_toArray, List.set_cons_zero, List.set_cons_succ, i64_w, i32_w]
                      rfl
                    refine pure_ (i := 19) (N := some 117) (v := undef) (a' := ?_) #[true, true, true, true, true, true, true, true, true, true, true, true, true, true, true, true, true, true, true, true, false, false, false, false] rfl rfl (any_of HT_.out (by kernel_rfl)) (fun _ _ _ h => h) (Or.inr ⟨by rfl, rfl⟩) ?_ ?_
                    rotate_left
                    · simp only [Act.put, List.setIfInBounds_toArray, List.set_cons_zero, List.set_cons_succ, i64_w, i32_w]
                      rfl
                    refine pure_ (i := 20) (N := some 118) (v := undef) (a' := ?_) #[true, true, true, true, true, true, true, true, true, true, true, true, true, true, true, true, true, true, true, true, true, false, false, false] rfl rfl (any_of HT_.out (by kernel_rfl)) (fun _ _ _ h => h) (Or.inr ⟨by rfl, rfl⟩) ?_ ?_
                    rotate_left
                    · simp only [Act.put, List.setIfInBounds_toArray, List.set_cons_zero, List.set_cons_succ, i64_w, i32_w]
                      rfl
                    refine pure_ (i := 21) (N := some 119) (v := ?_) (a' := ?_) #[true, true, true, true, true, true, true, true, true, true, true, true, true, true, true, true, true, true, true, true, true, true, false, false] rfl rfl (any_of HT_.out (by kernel_rfl)) (fun _ _ _ h => h) (Or.inl ⟨by rfl, ?_⟩) ?_ ?_
                    rotate_left
                    · intro w'
                      go_simp
                      with_reducible rfl
                    rotate_left
                    · simp only [Act.put, List.setIfInBounds_toArray, List.set_cons_zero, List.set_cons_succ, i64_w, i32_w]
                      rfl
                    refine pure_ (i := 22) (N := some 120) (v := ?_) (a' := ?_) #[true, true, true, true, true, true, true, true, true, true, true, true, true, true, true, true, true, true, true, true, true, true, true, false] rfl rfl (any_of HT_.out (by kernel_rfl)) (fun _ _ _ h => h) (Or.inl ⟨by rfl, ?_⟩) ?_ ?_
                    rotate_left
                    · intro w'
                      go_simp
                      with_reducible rfl
                    rotate_left
                    · simp only [Act.put, List.setIfInBounds_toArray, List.set_cons_zero, List.set_cons_succ, i64_w, i32_w]
                      rfl
                    refine pure_ (i := 23) (N := some 4) (v := ?_) (a' := ?_) #[true, true, true, true, true, true, true, true, true, true, true, true, true, true, true, true, true, true, true, true, true, true, true, true] rfl rfl (any_of HT_.out (by kernel_rfl)) (fun _ _ _ h => h) (Or.inl ⟨by rfl, ?_⟩) ?_ ?_
                    rotate_left
                    · intro w'
                      go_simp
                      with_reducible rfl
                    rotate_left
                    · simp only [Act.put, List.setIfInBounds_toArray, List.set_cons_zero, List.set_cons_succ, i64_w, i32_w]
                      rfl
                    refine done_ (done_of HT_.out (by kernel_rfl)) ?_
                    try go_wp2
                    go_ret
                    exact ⟨by first | rfl | (simp [errW_none, errW_some] <;> rfl) | (simp [*, errW_none, errW_some] <;> rfl), by repeat (first | (with_reducible first | exact HB.out | apply below_alloc | apply pw_below_drewN | apply below_drew1 | refine below_set ?_ GE575.out | refine below_set ?_ GE581.out) | exact HB.out)⟩
                  · rw [if_neg c162] at H
                    have c162b0 : (t609 == 0) = false := beq_eq_false_iff_ne.mpr c162
                    have c162b1 : (t609 != 0) = true := bne_iff_ne.mpr c162
                    obtain rfl := Option.some.inj H
                    have hnb171 := NB575_581.out
                    have hnc171 := NB581_575.out
                    have hcz172_0 : wc.cell? ⟨gb575, 0, none⟩ = some (.slice Ao11 t569.length co11) := (blk_cell BK575.out 0).trans rfl
                    have hfz172_0 := blk_frozen BK575.out 0
                    try go_wp2_with (first | ((with_reducible refine gate_callee (f := 32) rfl ?_); refine goesL_ (some 95) rfl rfl Try.func32 (by kernel_rfl) rfl #[.agg #[.slice Ao11 t569.length co11]] rfl (by (try simp only [List.map_toArray, List.map_cons, List.map_nil]); first | done | rfl | (simp only [List.length_drop, List.length_take]; rfl)) ?_; (with_reducible refine (nat_Nat_Small.calls _ _ t569 t603 true _ ?side1 ?side2 A156.out).mono ?_); (case side1 => repeat (first | exact (Kd.V_reads' HO_576000.out).2.2 | (with_reducible refine Kd.C_alloc ?_ _) | (with_reducible refine Kd.C_drewN ?_ _) | (with_reducible refine Kd.C_drew ?_))); (case side2 => exact (Kd.V_reads' HO_576000.out).2.1); rintro e w173 ⟨rfl, hb⟩; refine ⟨_, rfl, ?_⟩; have n0_ := Aside0.mk (Kd.V_below (by (with_reducible repeat (first | apply Kd.V_alloc | apply Kd.V_drewN | apply Kd.V_drew)); exact HO_576000.out) hb); have n1_ := Aside0.mk (Kd.V_below (by (with_reducible repeat (first | apply Kd.V_alloc | apply Kd.V_drewN | apply Kd.V_drew)); exact HO_582000.out) hb); have n2_ := Aside0.mk (blk_below (g := gb575) (o := .cells #[.slice Ao11 t569.length co11] 31 (0, 0)) (by (with_reducible repeat (first | refine blk_drewN ?_ _ | refine blk_drew ?_ | refine blk_alloc ?_ _)); exact BK575.out) hb); have n3_ := Aside0.mk (blk_below (g := gb581) (o := .cells #[.slice Ao15 t576.length co15] 31 (0, 0)) (by (with_reducible repeat (first | refine blk_drewN ?_ _ | refine blk_drew ?_ | refine blk_alloc ?_ _)); exact BK581.out) hb); have n4_ := Aside0.mk (below_step (by repeat (first | (with_reducible first | exact HB.out | apply below_alloc | apply pw_below_drewN | apply below_drew1 | refine below_set ?_ GE575.out | refine below_set ?_ GE581.out) | exact HB.out)) hb); clear HO_576000; clear HO_582000; clear BK575; clear BK581; clear HB; have HO_576000 := n0_; have HO_582000 := n1_; have BK575 := n2_; have BK581 := n3_; have HB := n4_; clear n0_ n1_ n2_ n3_ n4_; (try clear hb); (try clear hb2); (try clear hk); (try clear hi)))
                    have n0_ := Aside0.mk (Kd.V_drew HO_576000.out)
                    have n1_ := Aside0.mk (Kd.V_drew HO_582000.out)
                    have n2_ := Aside0.mk (blk_drew BK575.out)
                    have n3_ := Aside0.mk (blk_drew BK581.out)
                    have n4_ := Aside0.mk (below_drew1 HB.out)
                    clear HO_576000
                    clear HO_582000
                    clear BK575
                    clear BK581
                    clear HB
                    have HO_576000 := n0_
                    have HO_582000 := n1_
                    have BK575 := n2_
                    have BK581 := n3_
                    have HB := n4_
                    clear n0_ n1_ n2_ n3_ n4_
                    refine start_ (n := 24) (S := fun w' => w'.cell? ⟨gb575, 0, none⟩ = some (.slice Ao11 t569.length co11)) (ds := []) #[false, false, false, false, false, false, false, false, false, false, false, false, false, false, false, false, false, false, false, false, false, false, false, false] (by kernel_rfl) rfl rfl ((blk_cell BK575.out 0).trans rfl) (fun hHeld => ?_); refine with_tabW coxswainlaw03_NatOne.tab12 coxswainlaw03_NatOne.bits12 (fun HT_ HW_ => ?_)
                    generalize w173.drew = w174 at HO_576000 HO_582000 BK575 BK581 HB hHeld ⊢
                    refine pure_ (i := 0) (N := some 98) (v := ?_) (a' := ?_) #[true, false, false, false, false, false, false, false, false, false, false, false, false, false, false, false, false, false, false, false, false, false, false, false] rfl rfl (any_of HT_.out (by kernel_rfl)) (fun _ _ _ h => h) (Or.inl ⟨by rfl, ?_⟩) ?_ ?_
                    rotate_left
                    · intro w'
                      go_simp
                      with_reducible rfl
                    rotate_left
                    · simp only [Act.put, List.setIfInBounds_toArray, List.set_cons_zero, List.set_cons_succ, i64_w, i32_w]
                      rfl
                    refine take_ (i := 1) (N := some 99) (v := ?_) (a' := ?_) #[true, true, false, false, false, false, false, false, false, false, false, false, false, false, false, false, false, false, false, false, false, false, false, false] rfl rfl (take_ofW HT_.out HW_.out (by kernel_rfl)) (fun _ _ _ h => h) (Or.inl ⟨by rfl, ?_⟩) hHeld ?_ ?_
                    rotate_left
                    · intro w' s0
                      go_simp
                      with_reducible rfl
                    rotate_left
                    · simp only [Act.put, List.setIfInBounds_toArray, List.set_cons_zero, List.set_cons_succ, i64_w, i32_w]
                      rfl
                    refine one_ (i := 2) (N := some 100) #[true, true, true, false, false, false, false, false, false, false, false, false, false, false, false, false, false, false, false, false, false, false, false, false] rfl rfl (one_of HT_.out (by kernel_rfl)) (by decide) (fun K hK => ?_)
                    refine goes_ Try.func22 (by kernel_rfl) rfl #[.agg #[.slice Ao11 t569.length co11]] (by rfl) rfl rfl (by (try simp only [List.map_toArray, List.map_cons, List.map_nil]); first | done | rfl | (simp only [List.length_drop, List.length_take]; rfl)) ?_
                    with_reducible refine (nat_Nat_Bits.calls _ _ t569 t605 _ ?side1 ?side2 A157.out).mono ?_
                    (case side1 => repeat (first | exact (Kd.V_reads' HO_576000.out).2.2 | (with_reducible refine Kd.C_alloc ?_ _) | (with_reducible refine Kd.C_drewN ?_ _) | (with_reducible refine Kd.C_drew ?_)))
                    (case side2 => exact (Kd.V_reads' HO_576000.out).2.1)
                    rintro e w175 ⟨rfl, hb⟩
                    refine ⟨_, rfl, ?_⟩
                    have n0_ := Aside0.mk (Kd.V_below (by (with_reducible repeat (first | apply Kd.V_alloc | apply Kd.V_drewN | apply Kd.V_drew)); exact HO_576000.out) hb)
                    have n1_ := Aside0.mk (Kd.V_below (by (with_reducible repeat (first | apply Kd.V_alloc | apply Kd.V_drewN | apply Kd.V_drew)); exact HO_582000.out) hb)
                    have n2_ := Aside0.mk (blk_below (g := gb575) (o := .cells #[.slice Ao11 t569.length co11] 31 (0, 0)) (by (with_reducible repeat (first | refine blk_drewN ?_ _ | refine blk_drew ?_ | refine blk_alloc ?_ _)); exact BK575.out) hb)
                    have n3_ := Aside0.mk (blk_below (g := gb581) (o := .cells #[.slice Ao15 t576.length co15] 31 (0, 0)) (by (with_reducible repeat (first | refine blk_drewN ?_ _ | refine blk_drew ?_ | refine blk_alloc ?_ _)); exact BK581.out) hb)
                    have n4_ := Aside0.mk (below_step (by repeat (first | (with_reducible first | exact HB.out | apply below_alloc | apply pw_below_drewN | apply below_drew1 | refine below_set ?_ GE575.out | refine below_set ?_ GE581.out) | exact HB.out)) hb)
                    clear HO_576000
                    clear HO_582000
                    clear BK575
                    clear BK581
                    clear HB
                    have HO_576000 := n0_
                    have HO_582000 := n1_
                    have BK575 := n2_
                    have BK581 := n3_
                    have HB := n4_
                    clear n0_ n1_ n2_ n3_ n4_
                    (try clear hb)
                    (try clear hb2)
                    (try clear hk)
                    (try clear hi)
                    refine hK.out _ _ ((blk_cell BK575.out 0).trans rfl) (fun hHeld => ?_)
                    clear hK K
                    refine norm_ (a' := ?_) ?_ ?_
                    rotate_left
                    · show Act.put _ (some 100) _ = _
                      simp only [Act.put, List.setIfInBounds_toArray, List.set_cons_zero, List.set_cons_succ, i64_w, i32_w]
                      rfl
                    refine pure_ (i := 3) (N := some 101) (v := ?_) (a' := ?_) #[true, true, true, true, false, false, false, false, false, false, false, false, false, false, false, false, false, false, false, false, false, false, false, false] rfl rfl (any_of HT_.out (by kernel_rfl)) (fun _ _ _ h => h) (Or.inl ⟨by rfl, ?_⟩) ?_ ?_
                    rotate_left
                    · intro w'
                      go_simp
                      with_reducible rfl
                    rotate_left
                    · simp only [Act.put, List.setIfInBounds_toArray, List.set_cons_zero, List.set_cons_succ, i64_w, i32_w]
                      rfl
                    refine pure_ (i := 4) (N := some 102) (v := ?_) (a' := ?_) #[true, true, true, true, true, false, false, false, false, false, false, false, false, false, false, false, false, false, false, false, false, false, false, false] rfl rfl (any_of HT_.out (by kernel_rfl)) (fun _ _ _ h => h) (Or.inl ⟨by rfl, ?_⟩) ?_ ?_
                    rotate_left
                    · intro w'
                      go_simp
                      with_reducible rfl
                    rotate_left
                    · simp only [Act.put, List.setIfInBounds_toArray, List.set_cons_zero, List.set_cons_succ, i64_w, i32_w]
                      rfl
                    refine pure_ (i := 5) (N := some 103) (v := ?_) (a' := ?_) #[true, true, true, true, true, true, false, false, false, false, false, false, false, false, false, false, false, false, false, false, false, false, false, false] rfl rfl (any_of HT_.out (by kernel_rfl)) (fun _ _ _ h => h) (Or.inl ⟨by rfl, ?_⟩) ?_ ?_
                    rotate_left
                    · intro w'
                      go_simp
                      with_reducible rfl
                    rotate_left
                    · simp only [Act.put, List.setIfInBounds_toArray, List.set_cons_zero, List.set_cons_succ, i64_w, i32_w]
                      rfl
                    refine pure_ (i := 6) (N := some 104) (v := ?_) (a' := ?_) #[true, true, true, true, true, true, true, false, false, false, false, false, false, false, false, false, false, false, false, false, false, false, false, false] rfl rfl (any_of HT_.out (by kernel_rfl)) (fun _ _ _ h => h) (Or.inl ⟨by rfl, ?_⟩) ?_ ?_
                    rotate_left
                    · intro w'
                      go_simp
                      with_reducible rfl
                    rotate_left
                    · simp only [Act.put, List.setIfInBounds_toArray, List.set_cons_zero, List.set_cons_succ, i64_w, i32_w]
                      rfl
                    refine pure_ (i := 7) (N := some 105) (v := ?_) (a' := ?_) #[true, true, true, true, true, true, true, true, false, false, false, false, false, false, false, false, false, false, false, false, false, false, false, false] rfl rfl (any_of HT_.out (by kernel_rfl)) (fun _ _ _ h => h) (Or.inl ⟨by rfl, ?_⟩) ?_ ?_
                    rotate_left
                    · intro w'
                      go_simp
                      with_reducible rfl
                    rotate_left
                    · simp only [Act.put, List.setIfInBounds_toArray, List.set_cons_zero, List.set_cons_succ, i64_w, i32_w]
                      rfl
                    refine pure_ (i := 8) (N := some 106) (v := ?_) (a' := ?_) #[true, true, true, true, true, true, true, true, true, false, false, false, false, false, false, false, false, false, false, false, false, false, false, false] rfl rfl (any_of HT_.out (by kernel_rfl)) (fun _ _ _ h => h) (Or.inl ⟨by rfl, ?_⟩) ?_ ?_
                    rotate_left
                    · intro w'
                      go_simp
                      with_reducible rfl
                    rotate_left
                    · simp only [Act.put, List.setIfInBounds_toArray, List.set_cons_zero, List.set_cons_succ, i64_w, i32_w]
                      rfl
                    refine take_ (i := 10) (N := some 108) (v := ?_) (a' := ?_) #[true, true, true, true, true, true, true, true, true, false, true, false, false, false, false, false, false, false, false, false, false, false, false, false] rfl rfl (take_ofW HT_.out HW_.out (by kernel_rfl)) (fun _ _ _ h => h) (Or.inl ⟨by rfl, ?_⟩) hHeld ?_ ?_
                    rotate_left
                    · intro w' s0
                      go_simp
                      with_reducible rfl
                    rotate_left
                    · simp only [Act.put, List.setIfInBounds_toArray, List.set_cons_zero, List.set_cons_succ, i64_w, i32_w]
                      rfl
                    refine one_ (i := 9) (N := some 107) #[true, true, true, true, true, true, true, true, true, true, true, false, false, false, false, false, false, false, false, false, false, false, false, false] rfl rfl (one_of HT_.out (by kernel_rfl)) (by decide) (fun K hK => ?_)
                    refine goes_ Try.func30 (by kernel_rfl) rfl #[.int .u64 t603] (by rfl) rfl rfl (by (try simp only [List.map_toArray, List.map_cons, List.map_nil]); first | done | rfl | (simp only [List.length_drop, List.length_take]; rfl)) ?_
                    with_reducible refine (nat_Of.calls kj127 t603 t606 _ A160.out).mono ?_
                    rintro e w176 ⟨v607, rfl, ho0, hb⟩
                    refine ⟨_, rfl, ?_⟩
                    have n0_ := Aside0.mk (Kd.V_below (by (with_reducible repeat (first | apply Kd.V_alloc | apply Kd.V_drewN | apply Kd.V_drew)); exact HO_576000.out) hb)
                    have n1_ := Aside0.mk (Kd.V_below (by (with_reducible repeat (first | apply Kd.V_alloc | apply Kd.V_drewN | apply Kd.V_drew)); exact HO_582000.out) hb)
                    have n2_ := Aside0.mk (Kd.V_lower (Kd.V_mono (ok' := fun k_ => k_ ≠ gb575 ∧ k_ ≠ gb581) ho0 (fun k_ hk_ => ⟨(Kd.freshB (g := gb575) (o := .cells #[.slice Ao11 t569.length co11] 31 (0, 0)) (by (with_reducible repeat (first | refine blk_drewN ?_ _ | refine blk_drew ?_ | refine blk_alloc ?_ _)); exact BK575.out) k_ hk_), (Kd.freshB (g := gb581) (o := .cells #[.slice Ao15 t576.length co15] 31 (0, 0)) (by (with_reducible repeat (first | refine blk_drewN ?_ _ | refine blk_drew ?_ | refine blk_alloc ?_ _)); exact BK581.out) k_ hk_)⟩)) (below_size (by repeat (first | (with_reducible first | exact HB.out | apply below_alloc | apply pw_below_drewN | apply below_drew1 | refine below_set ?_ GE575.out | refine below_set ?_ GE581.out) | exact HB.out))))
                    have n3_ := Aside0.mk (blk_below (g := gb575) (o := .cells #[.slice Ao11 t569.length co11] 31 (0, 0)) (by (with_reducible repeat (first | refine blk_drewN ?_ _ | refine blk_drew ?_ | refine blk_alloc ?_ _)); exact BK575.out) hb)
                    have n4_ := Aside0.mk (blk_below (g := gb581) (o := .cells #[.slice Ao15 t576.length co15] 31 (0, 0)) (by (with_reducible repeat (first | refine blk_drewN ?_ _ | refine blk_drew ?_ | refine blk_alloc ?_ _)); exact BK581.out) hb)
                    have n5_ := Aside0.mk (below_step (by repeat (first | (with_reducible first | exact HB.out | apply below_alloc | apply pw_below_drewN | apply below_drew1 | refine below_set ?_ GE575.out | refine below_set ?_ GE581.out) | exact HB.out)) hb)
                    clear HO_576000
                    clear HO_582000
                    clear BK575
                    clear BK581
                    clear HB
                    have HO_576000 := n0_
                    have HO_582000 := n1_
                    have HO608 := n2_
                    have BK575 := n3_
                    have BK581 := n4_
                    have HB := n5_
                    clear n0_ n1_ n2_ n3_ n4_ n5_
                    (try clear hb)
                    (try clear hb2)
                    (try clear hk)
                    (try clear hi)
                    (try clear ho0)
                    obtain ⟨Ao177, co177, eo177⟩ := Kd.V_slice HO608.out
                    (first | subst eo177 | (injection eo177 with f1_ f2_ f3_; have f4_ := f1_.symm; have f5_ := f3_.symm; clear f1_ f2_ f3_; subst f4_; subst f5_))
                    refine hK.out _ _ ((blk_cell BK575.out 0).trans rfl) (fun hHeld => ?_)
                    clear hK K
                    refine norm_ (a' := ?_) ?_ ?_
                    rotate_left
                    · show Act.put _ (some 107) _ = _
                      simp only [Act.put, List.setIfInBounds_toArray, List.set_cons_zero, List.set_cons_succ, i64_w, i32_w]
                      rfl
                    refine one_ (i := 11) (N := some 109) #[true, true, true, true, true, true, true, true, true, true, true, true, false, false, false, false, false, false, false, false, false, false, false, false] rfl rfl (one_of HT_.out (by kernel_rfl)) (by decide) (fun K hK => ?_)
                    refine goes_ Try.func33 (by kernel_rfl) rfl #[.agg #[.slice Ao177 t606.length co177], .agg #[.slice Ao11 t569.length co11]] (by rfl) rfl rfl (by (try simp only [List.map_toArray, List.map_cons, List.map_nil]); first | done | rfl | (simp only [List.length_drop, List.length_take]; rfl)) ?_
                    with_reducible refine (nat_Nat_Cmp.calls kj127 _ _ t606 _ _ t569 t609 _ ?side1 ?side2 ?side3 ?side4 A161.out).mono ?_
                    (case side1 => repeat (first | exact (Kd.V_reads' HO608.out).2.2 | (with_reducible refine Kd.C_alloc ?_ _) | (with_reducible refine Kd.C_drewN ?_ _) | (with_reducible refine Kd.C_drew ?_)))
                    (case side2 => exact (Kd.V_reads' HO608.out).2.1)
                    (case side3 => repeat (first | exact (Kd.V_reads' HO_576000.out).2.2 | (with_reducible refine Kd.C_alloc ?_ _) | (with_reducible refine Kd.C_drewN ?_ _) | (with_reducible refine Kd.C_drew ?_)))
                    (case side4 => exact (Kd.V_reads' HO_576000.out).2.1)
                    rintro e w178 ⟨rfl, hb⟩
                    refine ⟨_, rfl, ?_⟩
                    have n0_ := Aside0.mk (Kd.V_below (by (with_reducible repeat (first | apply Kd.V_alloc | apply Kd.V_drewN | apply Kd.V_drew)); exact HO_576000.out) hb)
                    have n1_ := Aside0.mk (Kd.V_below (by (with_reducible repeat (first | apply Kd.V_alloc | apply Kd.V_drewN | apply Kd.V_drew)); exact HO_582000.out) hb)
                    have n2_ := Aside0.mk (Kd.V_below (by (with_reducible repeat (first | apply Kd.V_alloc | apply Kd.V_drewN | apply Kd.V_drew)); exact HO608.out) hb)
                    have n3_ := Aside0.mk (blk_below (g := gb575) (o := .cells #[.slice Ao11 t569.length co11] 31 (0, 0)) (by (with_reducible repeat (first | refine blk_drewN ?_ _ | refine blk_drew ?_ | refine blk_alloc ?_ _)); exact BK575.out) hb)
                    have n4_ := Aside0.mk (blk_below (g := gb581) (o := .cells #[.slice Ao15 t576.length co15] 31 (0, 0)) (by (with_reducible repeat (first | refine blk_drewN ?_ _ | refine blk_drew ?_ | refine blk_alloc ?_ _)); exact BK581.out) hb)
                    have n5_ := Aside0.mk (below_step (by repeat (first | (with_reducible first | exact HB.out | apply below_alloc | apply pw_below_drewN | apply below_drew1 | refine below_set ?_ GE575.out | refine below_set ?_ GE581.out) | exact HB.out)) hb)
                    clear HO_576000
                    clear HO_582000
                    clear HO608
                    clear BK575
                    clear BK581
                    clear HB
                    have HO_576000 := n0_
                    have HO_582000 := n1_
                    have HO608 := n2_
                    have BK575 := n3_
                    have BK581 := n4_
                    have HB := n5_
                    clear n0_ n1_ n2_ n3_ n4_ n5_
                    (try clear hb)
                    (try clear hb2)
                    (try clear hk)
                    (try clear hi)
                    refine hK.out _ _ ((blk_cell BK575.out 0).trans rfl) (fun hHeld => ?_)
                    clear hK K
                    refine norm_ (a' := ?_) ?_ ?_
                    rotate_left
                    · show Act.put _ (some 109) _ = _
                      simp only [Act.put, List.setIfInBounds_toArray, List.set_cons_zero, List.set_cons_succ, i64_w, i32_w]
                      rfl
                    refine pure_ (i := 12) (N := some 110) (v := ?_) (a' := ?_) #[true, true, true, true, true, true, true, true, true, true, true, true, true, false, false, false, false, false, false, false, false, false, false, false] rfl rfl (any_of HT_.out (by kernel_rfl)) (fun _ _ _ h => h) (Or.inl ⟨by rfl, ?_⟩) ?_ ?_
                    rotate_left
                    · intro w'
                      go_simp
                      with_reducible rfl
                    rotate_left
                    · simp only [Act.put, List.setIfInBounds_toArray, List.set_cons_zero, List.set_cons_succ, i64_w, i32_w]
                      rfl
                    refine pure_ (i := 13) (N := some 111) (v := ?_) (a' := ?_) #[true, true, true, true, true, true, true, true, true, true, true, true, true, true, false, false, false, false, false, false, false, false, false, false] rfl rfl (any_of HT_.out (by kernel_rfl)) (fun _ _ _ h => h) (Or.inl ⟨by rfl, ?_⟩) ?_ ?_
                    rotate_left
                    · intro w'
                      go_simp
                      with_reducible rfl
                    rotate_left
                    · simp only [Act.put, List.setIfInBounds_toArray, List.set_cons_zero, List.set_cons_succ, i64_w, i32_w]
                      rfl
                    refine pure_ (i := 14) (N := some 112) (v := ?_) (a' := ?_) #[true, true, true, true, true, true, true, true, true, true, true, true, true, true, true, false, false, false, false, false, false, false, false, false] rfl rfl (any_of HT_.out (by kernel_rfl)) (fun _ _ _ h => h) (Or.inl ⟨by rfl, ?_⟩) ?_ ?_
                    rotate_left
                    · intro w'
                      go_simp
                      with_reducible rfl
                    rotate_left
                    · simp only [Act.put, List.setIfInBounds_toArray, List.set_cons_zero, List.set_cons_succ, i64_w, i32_w]
                      rfl
                    refine pure_ (i := 15) (N := some 113) (v := ?_) (a' := ?_) #[true, true, true, true, true, true, true, true, true, true, true, true, true, true, true, true, false, false, false, false, false, false, false, false] rfl rfl (any_of HT_.out (by kernel_rfl)) (fun _ _ _ h => h) (Or.inl ⟨by rfl, ?_⟩) ?_ ?_
                    rotate_left
                    · intro w'
                      go_simp
                      with_reducible rfl
                    rotate_left
                    · simp only [Act.put, List.setIfInBounds_toArray, List.set_cons_zero, List.set_cons_succ, i64_w, i32_w]
                      rfl
                    refine pure_ (i := 16) (N := some 114) (v := ?_) (a' := ?_) #[true, true, true, true, true, true, true, true, true, true, true, true, true, true, true, true, true, false, false, false, false, false, false, false] rfl rfl (any_of HT_.out (by kernel_rfl)) (fun _ _ _ h => h) (Or.inl ⟨by rfl, ?_⟩) ?_ ?_
                    rotate_left
                    · intro w'
                      go_simp
                      with_reducible rfl
                    rotate_left
                    · simp only [Act.put, List.setIfInBounds_toArray, List.set_cons_zero, List.set_cons_succ, i64_w, i32_w]
                      rfl
                    refine pure_ (i := 17) (N := some 115) (v := ?_) (a' := ?_) #[true, true, true, true, true, true, true, true, true, true, true, true, true, true, true, true, true, true, false, false, false, false, false, false] rfl rfl (any_of HT_.out (by kernel_rfl)) (fun _ _ _ h => h) (Or.inl ⟨by rfl, ?_⟩) ?_ ?_
                    rotate_left
                    · intro w'
                      go_simp
                      with_reducible rfl
                    rotate_left
                    · simp only [Act.put, List.setIfInBounds_toArray, List.set_cons_zero, List.set_cons_succ, i64_w, i32_w]
                      rfl
                    refine pure_ (i := 18) (N := some 116) (v := undef) (a' := ?_) #[true, true, true, true, true, true, true, true, true, true, true, true, true, true, true, true, true, true, true, false, false, false, false, false] rfl rfl (any_of HT_.out (by kernel_rfl)) (fun _ _ _ h => h) (Or.inr ⟨by rfl, rfl⟩) ?_ ?_
                    rotate_left
                    · simp only [Act.put, List.setIfInBounds_toArray, List.set_cons_zero, List.set_cons_succ, i64_w, i32_w]
                      rfl
                    refine pure_ (i := 19) (N := some 117) (v := undef) (a' := ?_) #[true, true, true, true, true, true, true, true, true, true, true, true, true, true, true, true, true, true, true, true, false, false, false, false] rfl rfl (any_of HT_.out (by kernel_rfl)) (fun _ _ _ h => h) (Or.inr ⟨by rfl, rfl⟩) ?_ ?_
                    rotate_left
                    · simp only [Act.put, List.setIfInBounds_toArray, List.set_cons_zero, List.set_cons_succ, i64_w, i32_w]
                      rfl
                    refine pure_ (i := 20) (N := some 118) (v := ?_) (a' := ?_) #[true, true, true, true, true, true, true, true, true, true, true, true, true, true, true, true, true, true, true, true, true, false, false, false] rfl rfl (any_of HT_.out (by kernel_rfl)) (fun _ _ _ h => h) (Or.inl ⟨by rfl, ?_⟩) ?_ ?_
                    rotate_left
                    · intro w'
                      go_simp
                      with_reducible rfl
                    rotate_left
                    · simp only [Act.put, List.setIfInBounds_toArray, List.set_cons_zero, List.set_cons_succ, i64_w, i32_w]
                      rfl
                    refine pure_ (i := 21) (N := some 119) (v := ?_) (a' := ?_) #[true, true, true, true, true, true, true, true, true, true, true, true, true, true, true, true, true, true, true, true, true, true, false, false] rfl rfl (any_of HT_.out (by kernel_rfl)) (fun _ _ _ h => h) (Or.inl ⟨by rfl, ?_⟩) ?_ ?_
                    rotate_left
                    · intro w'
                      go_simp
                      with_reducible rfl
                    rotate_left
                    · simp only [Act.put, List.setIfInBounds_toArray, List.set_cons_zero, List.set_cons_succ, i64_w, i32_w]
                      rfl
                    refine pure_ (i := 22) (N := some 120) (v := ?_) (a' := ?_) #[true, true, true, true, true, true, true, true, true, true, true, true, true, true, true, true, true, true, true, true, true, true, true, false] rfl rfl (any_of HT_.out (by kernel_rfl)) (fun _ _ _ h => h) (Or.inl ⟨by rfl, ?_⟩) ?_ ?_
                    rotate_left
                    · intro w'
                      go_simp
                      with_reducible rfl
                    rotate_left
                    · simp only [Act.put, List.setIfInBounds_toArray, List.set_cons_zero, List.set_cons_succ, i64_w, i32_w]
                      rfl
                    refine pure_ (i := 23) (N := some 4) (v := ?_) (a' := ?_) #[true, true, true, true, true, true, true, true, true, true, true, true, true, true, true, true, true, true, true, true, true, true, true, true] rfl rfl (any_of HT_.out (by kernel_rfl)) (fun _ _ _ h => h) (Or.inl ⟨by rfl, ?_⟩) ?_ ?_
                    rotate_left
                    · intro w'
                      go_simp
                      with_reducible rfl
                    rotate_left
                    · simp only [Act.put, List.setIfInBounds_toArray, List.set_cons_zero, List.set_cons_succ, i64_w, i32_w]
                      rfl
                    refine done_ (done_of HT_.out (by kernel_rfl)) ?_
                    try go_wp2
                    go_ret
                    exact ⟨by first | rfl | (simp [errW_none, errW_some] <;> rfl) | (simp [*, errW_none, errW_some] <;> rfl), by repeat (first | (with_reducible first | exact HB.out | apply below_alloc | apply pw_below_drewN | apply below_drew1 | refine below_set ?_ GE575.out | refine below_set ?_ GE581.out) | exact HB.out)⟩
                · replace c159 := Bool.eq_false_iff.mpr c159
                  subst c159
                  have H1 : (some (t603 == 0)) = some r := by rw [if_neg (show ¬ (false = true) by decide)] at H; exact H
                  clear H
                  have H := H1
                  clear H1
                  obtain rfl := Option.some.inj H
                  have hnb179 := NB575_581.out
                  have hnc179 := NB581_575.out
                  have hcz180_0 : wc.cell? ⟨gb575, 0, none⟩ = some (.slice Ao11 t569.length co11) := (blk_cell BK575.out 0).trans rfl
                  have hfz180_0 := blk_frozen BK575.out 0
                  try go_wp2_with (first | ((with_reducible refine gate_callee (f := 32) rfl ?_); refine goesL_ (some 95) rfl rfl Try.func32 (by kernel_rfl) rfl #[.agg #[.slice Ao11 t569.length co11]] rfl (by (try simp only [List.map_toArray, List.map_cons, List.map_nil]); first | done | rfl | (simp only [List.length_drop, List.length_take]; rfl)) ?_; (with_reducible refine (nat_Nat_Small.calls _ _ t569 t603 false _ ?side1 ?side2 A156.out).mono ?_); (case side1 => repeat (first | exact (Kd.V_reads' HO_576000.out).2.2 | (with_reducible refine Kd.C_alloc ?_ _) | (with_reducible refine Kd.C_drewN ?_ _) | (with_reducible refine Kd.C_drew ?_))); (case side2 => exact (Kd.V_reads' HO_576000.out).2.1); rintro e w181 ⟨rfl, hb⟩; refine ⟨_, rfl, ?_⟩; have n0_ := Aside0.mk (Kd.V_below (by (with_reducible repeat (first | apply Kd.V_alloc | apply Kd.V_drewN | apply Kd.V_drew)); exact HO_576000.out) hb); have n1_ := Aside0.mk (Kd.V_below (by (with_reducible repeat (first | apply Kd.V_alloc | apply Kd.V_drewN | apply Kd.V_drew)); exact HO_582000.out) hb); have n2_ := Aside0.mk (blk_below (g := gb575) (o := .cells #[.slice Ao11 t569.length co11] 31 (0, 0)) (by (with_reducible repeat (first | refine blk_drewN ?_ _ | refine blk_drew ?_ | refine blk_alloc ?_ _)); exact BK575.out) hb); have n3_ := Aside0.mk (blk_below (g := gb581) (o := .cells #[.slice Ao15 t576.length co15] 31 (0, 0)) (by (with_reducible repeat (first | refine blk_drewN ?_ _ | refine blk_drew ?_ | refine blk_alloc ?_ _)); exact BK581.out) hb); have n4_ := Aside0.mk (below_step (by repeat (first | (with_reducible first | exact HB.out | apply below_alloc | apply pw_below_drewN | apply below_drew1 | refine below_set ?_ GE575.out | refine below_set ?_ GE581.out) | exact HB.out)) hb); clear HO_576000; clear HO_582000; clear BK575; clear BK581; clear HB; have HO_576000 := n0_; have HO_582000 := n1_; have BK575 := n2_; have BK581 := n3_; have HB := n4_; clear n0_ n1_ n2_ n3_ n4_; (try clear hb); (try clear hb2); (try clear hk); (try clear hi)))
                  have n0_ := Aside0.mk (Kd.V_drew HO_576000.out)
                  have n1_ := Aside0.mk (Kd.V_drew HO_582000.out)
                  have n2_ := Aside0.mk (blk_drew BK575.out)
                  have n3_ := Aside0.mk (blk_drew BK581.out)
                  have n4_ := Aside0.mk (below_drew1 HB.out)
                  clear HO_576000
                  clear HO_582000
                  clear BK575
                  clear BK581
                  clear HB
                  have HO_576000 := n0_
                  have HO_582000 := n1_
                  have BK575 := n2_
                  have BK581 := n3_
                  have HB := n4_
                  clear n0_ n1_ n2_ n3_ n4_
                  refine start_ (n := 24) (S := fun w' => w'.cell? ⟨gb575, 0, none⟩ = some (.slice Ao11 t569.length co11)) (ds := []) #[false, false, false, false, false, false, false, false, false, false, false, false, false, false, false, false, false, false, false, false, false, false, false, false] (by kernel_rfl) rfl rfl ((blk_cell BK575.out 0).trans rfl) (fun hHeld => ?_); refine with_tabW coxswainlaw03_NatOne.tab12 coxswainlaw03_NatOne.bits12 (fun HT_ HW_ => ?_)
                  generalize w181.drew = w182 at HO_576000 HO_582000 BK575 BK581 HB hHeld ⊢
                  refine pure_ (i := 0) (N := some 98) (v := ?_) (a' := ?_) #[true, false, false, false, false, false, false, false, false, false, false, false, false, false, false, false, false, false, false, false, false, false, false, false] rfl rfl (any_of HT_.out (by kernel_rfl)) (fun _ _ _ h => h) (Or.inl ⟨by rfl, ?_⟩) ?_ ?_
                  rotate_left
                  · intro w'
                    go_simp
                    with_reducible rfl
                  rotate_left
                  · simp only [Act.put, List.setIfInBounds_toArray, List.set_cons_zero, List.set_cons_succ, i64_w, i32_w]
                    rfl
                  refine take_ (i := 1) (N := some 99) (v := ?_) (a' := ?_) #[true, true, false, false, false, false, false, false, false, false, false, false, false, false, false, false, false, false, false, false, false, false, false, false] rfl rfl (take_ofW HT_.out HW_.out (by kernel_rfl)) (fun _ _ _ h => h) (Or.inl ⟨by rfl, ?_⟩) hHeld ?_ ?_
                  rotate_left
                  · intro w' s0
                    go_simp
                    with_reducible rfl
                  rotate_left
                  · simp only [Act.put, List.setIfInBounds_toArray, List.set_cons_zero, List.set_cons_succ, i64_w, i32_w]
                    rfl
                  refine one_ (i := 2) (N := some 100) #[true, true, true, false, false, false, false, false, false, false, false, false, false, false, false, false, false, false, false, false, false, false, false, false] rfl rfl (one_of HT_.out (by kernel_rfl)) (by decide) (fun K hK => ?_)
                  refine goes_ Try.func22 (by kernel_rfl) rfl #[.agg #[.slice Ao11 t569.length co11]] (by rfl) rfl rfl (by (try simp only [List.map_toArray, List.map_cons, List.map_nil]); first | done | rfl | (simp only [List.length_drop, List.length_take]; rfl)) ?_
                  with_reducible refine (nat_Nat_Bits.calls _ _ t569 t605 _ ?side1 ?side2 A157.out).mono ?_
                  (case side1 => repeat (first | exact (Kd.V_reads' HO_576000.out).2.2 | (with_reducible refine Kd.C_alloc ?_ _) | (with_reducible refine Kd.C_drewN ?_ _) | (with_reducible refine Kd.C_drew ?_)))
                  (case side2 => exact (Kd.V_reads' HO_576000.out).2.1)
                  rintro e w183 ⟨rfl, hb⟩
                  refine ⟨_, rfl, ?_⟩
                  have n0_ := Aside0.mk (Kd.V_below (by (with_reducible repeat (first | apply Kd.V_alloc | apply Kd.V_drewN | apply Kd.V_drew)); exact HO_576000.out) hb)
                  have n1_ := Aside0.mk (Kd.V_below (by (with_reducible repeat (first | apply Kd.V_alloc | apply Kd.V_drewN | apply Kd.V_drew)); exact HO_582000.out) hb)
                  have n2_ := Aside0.mk (blk_below (g := gb575) (o := .cells #[.slice Ao11 t569.length co11] 31 (0, 0)) (by (with_reducible repeat (first | refine blk_drewN ?_ _ | refine blk_drew ?_ | refine blk_alloc ?_ _)); exact BK575.out) hb)
                  have n3_ := Aside0.mk (blk_below (g := gb581) (o := .cells #[.slice Ao15 t576.length co15] 31 (0, 0)) (by (with_reducible repeat (first | refine blk_drewN ?_ _ | refine blk_drew ?_ | refine blk_alloc ?_ _)); exact BK581.out) hb)
                  have n4_ := Aside0.mk (below_step (by repeat (first | (with_reducible first | exact HB.out | apply below_alloc | apply pw_below_drewN | apply below_drew1 | refine below_set ?_ GE575.out | refine below_set ?_ GE581.out) | exact HB.out)) hb)
                  clear HO_576000
                  clear HO_582000
                  clear BK575
                  clear BK581
                  clear HB
                  have HO_576000 := n0_
                  have HO_582000 := n1_
                  have BK575 := n2_
                  have BK581 := n3_
                  have HB := n4_
                  clear n0_ n1_ n2_ n3_ n4_
                  (try clear hb)
                  (try clear hb2)
                  (try clear hk)
                  (try clear hi)
                  refine hK.out _ _ ((blk_cell BK575.out 0).trans rfl) (fun hHeld => ?_)
                  clear hK K
                  refine norm_ (a' := ?_) ?_ ?_
                  rotate_left
                  · show Act.put _ (some 100) _ = _
                    simp only [Act.put, List.setIfInBounds_toArray, List.set_cons_zero, List.set_cons_succ, i64_w, i32_w]
                    rfl
                  refine pure_ (i := 3) (N := some 101) (v := ?_) (a' := ?_) #[true, true, true, true, false, false, false, false, false, false, false, false, false, false, false, false, false, false, false, false, false, false, false, false] rfl rfl (any_of HT_.out (by kernel_rfl)) (fun _ _ _ h => h) (Or.inl ⟨by rfl, ?_⟩) ?_ ?_
                  rotate_left
                  · intro w'
                    go_simp
                    with_reducible rfl
                  rotate_left
                  · simp only [Act.put, List.setIfInBounds_toArray, List.set_cons_zero, List.set_cons_succ, i64_w, i32_w]
                    rfl
                  refine pure_ (i := 4) (N := some 102) (v := ?_) (a' := ?_) #[true, true, true, true, true, false, false, false, false, false, false, false, false, false, false, false, false, false, false, false, false, false, false, false] rfl rfl (any_of HT_.out (by kernel_rfl)) (fun _ _ _ h => h) (Or.inl ⟨by rfl, ?_⟩) ?_ ?_
                  rotate_left
                  · intro w'
                    go_simp
                    with_reducible rfl
                  rotate_left
                  · simp only [Act.put, List.setIfInBounds_toArray, List.set_cons_zero, List.set_cons_succ, i64_w, i32_w]
                    rfl
                  refine pure_ (i := 5) (N := some 103) (v := ?_) (a' := ?_) #[true, true, true, true, true, true, false, false, false, false, false, false, false, false, false, false, false, false, false, false, false, false, false, false] rfl rfl (any_of HT_.out (by kernel_rfl)) (fun _ _ _ h => h) (Or.inl ⟨by rfl, ?_⟩) ?_ ?_
                  rotate_left
                  · intro w'
                    go_simp
                    with_reducible rfl
                  rotate_left
                  · simp only [Act.put, List.setIfInBounds_toArray, List.set_cons_zero, List.set_cons_succ, i64_w, i32_w]
                    rfl
                  refine pure_ (i := 6) (N := some 104) (v := ?_) (a' := ?_) #[true, true, true, true, true, true, true, false, false, false, false, false, false, false, false, false, false, false, false, false, false, false, false, false] rfl rfl (any_of HT_.out (by kernel_rfl)) (fun _ _ _ h => h) (Or.inl ⟨by rfl, ?_⟩) ?_ ?_
                  rotate_left
                  · intro w'
                    go_simp
                    with_reducible rfl
                  rotate_left
                  · simp only [Act.put, List.setIfInBounds_toArray, List.set_cons_zero, List.set_cons_succ, i64_w, i32_w]
                    rfl
                  refine pure_ (i := 7) (N := some 105) (v := ?_) (a' := ?_) #[true, true, true, true, true, true, true, true, false, false, false, false, false, false, false, false, false, false, false, false, false, false, false, false] rfl rfl (any_of HT_.out (by kernel_rfl)) (fun _ _ _ h => h) (Or.inl ⟨by rfl, ?_⟩) ?_ ?_
                  rotate_left
                  · intro w'
                    go_simp
                    with_reducible rfl
                  rotate_left
                  · simp only [Act.put, List.setIfInBounds_toArray, List.set_cons_zero, List.set_cons_succ, i64_w, i32_w]
                    rfl
                  refine pure_ (i := 8) (N := some 106) (v := undef) (a' := ?_) #[true, true, true, true, true, true, true, true, true, false, false, false, false, false, false, false, false, false, false, false, false, false, false, false] rfl rfl (any_of HT_.out (by kernel_rfl)) (fun _ _ _ h => h) (Or.inr ⟨by rfl, rfl⟩) ?_ ?_
                  rotate_left
                  · simp only [Act.put, List.setIfInBounds_toArray, List.set_cons_zero, List.set_cons_succ, i64_w, i32_w]
                    rfl
                  refine pure_ (i := 9) (N := some 107) (v := undef) (a' := ?_) #[true, true, true, true, true, true, true, true, true, true, false, false, false, false, false, false, false, false, false, false, false, false, false, false] rfl rfl (any_of HT_.out (by kernel_rfl)) (fun _ _ _ h => h) (Or.inr ⟨by rfl, rfl⟩) ?_ ?_
                  rotate_left
                  · simp only [Act.put, List.setIfInBounds_toArray, List.set_cons_zero, List.set_cons_succ, i64_w, i32_w]
                    rfl
                  refine pure_ (i := 10) (N := some 108) (v := undef) (a' := ?_) #[true, true, true, true, true, true, true, true, true, true, true, false, false, false, false, false, false, false, false, false, false, false, false, false] rfl rfl (any_of HT_.out (by kernel_rfl)) (fun _ _ _ h => h) (Or.inr ⟨by rfl, rfl⟩) ?_ ?_
                  rotate_left
                  · simp only [Act.put, List.setIfInBounds_toArray, List.set_cons_zero, List.set_cons_succ, i64_w, i32_w]
                    rfl
                  refine pure_ (i := 11) (N := some 109) (v := undef) (a' := ?_) #[true, true, true, true, true, true, true, true, true, true, true, true, false, false, false, false, false, false, false, false, false, false, false, false] rfl rfl (any_of HT_.out (by kernel_rfl)) (fun _ _ _ h => h) (Or.inr ⟨by rfl, rfl⟩) ?_ ?_
                  rotate_left
                  · simp only [Act.put, List.setIfInBounds_toArray, List.set_cons_zero, List.set_cons_succ, i64_w, i32_w]
                    rfl
                  refine pure_ (i := 12) (N := some 110) (v := undef) (a' := ?_) #[true, true, true, true, true, true, true, true, true, true, true, true, true, false, false, false, false, false, false, false, false, false, false, false] rfl rfl (any_of HT_.out (by kernel_rfl)) (fun _ _ _ h => h) (Or.inr ⟨by rfl, rfl⟩) ?_ ?_
                  rotate_left
                  · simp only [Act.put, List.setIfInBounds_toArray, List.set_cons_zero, List.set_cons_succ, i64_w, i32_w]
                    rfl
                  refine pure_ (i := 13) (N := some 111) (v := ?_) (a' := ?_) #[true, true, true, true, true, true, true, true, true, true, true, true, true, true, false, false, false, false, false, false, false, false, false, false] rfl rfl (any_of HT_.out (by kernel_rfl)) (fun _ _ _ h => h) (Or.inl ⟨by rfl, ?_⟩) ?_ ?_
                  rotate_left
                  · intro w'
                    go_simp
                    with_reducible rfl
                  rotate_left
                  · simp only [Act.put, List.setIfInBounds_toArray, List.set_cons_zero, List.set_cons_succ, i64_w, i32_w]
                    rfl
                  refine pure_ (i := 14) (N := some 112) (v := ?_) (a' := ?_) #[true, true, true, true, true, true, true, true, true, true, true, true, true, true, true, false, false, false, false, false, false, false, false, false] rfl rfl (any_of HT_.out (by kernel_rfl)) (fun _ _ _ h => h) (Or.inl ⟨by rfl, ?_⟩) ?_ ?_
                  rotate_left
                  · intro w'
                    go_simp
                    with_reducible rfl
                  rotate_left
                  · simp only [Act.put, List.setIfInBounds_toArray, List.set_cons_zero, List.set_cons_succ, i64_w, i32_w]
                    rfl
                  refine pure_ (i := 15) (N := some 113) (v := ?_) (a' := ?_) #[true, true, true, true, true, true, true, true, true, true, true, true, true, true, true, true, false, false, false, false, false, false, false, false] rfl rfl (any_of HT_.out (by kernel_rfl)) (fun _ _ _ h => h) (Or.inl ⟨by rfl, ?_⟩) ?_ ?_
                  rotate_left
                  · intro w'
                    go_simp
                    with_reducible rfl
                  rotate_left
                  · simp only [Act.put, List.setIfInBounds_toArray, List.set_cons_zero, List.set_cons_succ, i64_w, i32_w]
                    rfl
                  refine pure_ (i := 16) (N := some 114) (v := ?_) (a' := ?_) #[true, true, true, true, true, true, true, true, true, true, true, true, true, true, true, true, true, false, false, false, false, false, false, false] rfl rfl (any_of HT_.out (by kernel_rfl)) (fun _ _ _ h => h) (Or.inl ⟨by rfl, ?_⟩) ?_ ?_
                  rotate_left
                  · intro w'
                    go_simp
                    with_reducible rfl
                  rotate_left
                  · simp only [Act.put, List.setIfInBounds_toArray, List.set_cons_zero, List.set_cons_succ, i64_w, i32_w]
                    rfl
                  refine pure_ (i := 17) (N := some 115) (v := ?_) (a' := ?_) #[true, true, true, true, true, true, true, true, true, true, true, true, true, true, true, true, true, true, false, false, false, false, false, false] rfl rfl (any_of HT_.out (by kernel_rfl)) (fun _ _ _ h => h) (Or.inl ⟨by rfl, ?_⟩) ?_ ?_
                  rotate_left
                  · intro w'
                    go_simp
                    with_reducible rfl
                  rotate_left
                  · simp only [Act.put, List.setIfInBounds_toArray, List.set_cons_zero, List.set_cons_succ, i64_w, i32_w]
                    rfl
                  refine pure_ (i := 18) (N := some 116) (v := ?_) (a' := ?_) #[true, true, true, true, true, true, true, true, true, true, true, true, true, true, true, true, true, true, true, false, false, false, false, false] rfl rfl (any_of HT_.out (by kernel_rfl)) (fun _ _ _ h => h) (Or.inl ⟨by rfl, ?_⟩) ?_ ?_
                  rotate_left
                  · intro w'
                    go_simp
                    with_reducible rfl
                  rotate_left
                  · simp only [Act.put, List.setIfInBounds_toArray, List.set_cons_zero, List.set_cons_succ, i64_w, i32_w]
                    rfl
                  refine pure_ (i := 19) (N := some 117) (v := ?_) (a' := ?_) #[true, true, true, true, true, true, true, true, true, true, true, true, true, true, true, true, true, true, true, true, false, false, false, false] rfl rfl (any_of HT_.out (by kernel_rfl)) (fun _ _ _ h => h) (Or.inl ⟨by rfl, ?_⟩) ?_ ?_
                  rotate_left
                  · intro w'
                    go_simp
                    with_reducible rfl
                  rotate_left
                  · simp only [Act.put, List.setIfInBounds_toArray, List.set_cons_zero, List.set_cons_succ, i64_w, i32_w]
                    rfl
                  refine pure_ (i := 20) (N := some 118) (v := ?_) (a' := ?_) #[true, true, true, true, true, true, true, true, true, true, true, true, true, true, true, true, true, true, true, true, true, false, false, false] rfl rfl (any_of HT_.out (by kernel_rfl)) (fun _ _ _ h => h) (Or.inl ⟨by rfl, ?_⟩) ?_ ?_
                  rotate_left
                  · intro w'
                    go_simp
                    with_reducible rfl
                  rotate_left
                  · simp only [Act.put, List.setIfInBounds_toArray, List.set_cons_zero, List.set_cons_succ, i64_w, i32_w]
                    rfl
                  refine pure_ (i := 21) (N := some 119) (v := ?_) (a' := ?_) #[true, true, true, true, true, true, true, true, true, true, true, true, true, true, true, true, true, true, true, true, true, true, false, false] rfl rfl (any_of HT_.out (by kernel_rfl)) (fun _ _ _ h => h) (Or.inl ⟨by rfl, ?_⟩) ?_ ?_
                  rotate_left
                  · intro w'
                    go_simp
                    with_reducible rfl
                  rotate_left
                  · simp only [Act.put, List.setIfInBounds_toArray, List.set_cons_zero, List.set_cons_succ, i64_w, i32_w]
                    rfl
                  refine pure_ (i := 22) (N := some 120) (v := ?_) (a' := ?_) #[true, true, true, true, true, true, true, true, true, true, true, true, true, true, true, true, true, true, true, true, true, true, true, false] rfl rfl (any_of HT_.out (by kernel_rfl)) (fun _ _ _ h => h) (Or.inl ⟨by rfl, ?_⟩) ?_ ?_
                  rotate_left
                  · intro w'
                    go_simp
                    with_reducible rfl
                  rotate_left
                  · simp only [Act.put, List.setIfInBounds_toArray, List.set_cons_zero, List.set_cons_succ, i64_w, i32_w]
                    rfl
                  refine pure_ (i := 23) (N := some 4) (v := ?_) (a' := ?_) #[true, true, true, true, true, true, true, true, true, true, true, true, true, true, true, true, true, true, true, true, true, true, true, true] rfl rfl (any_of HT_.out (by kernel_rfl)) (fun _ _ _ h => h) (Or.inl ⟨by rfl, ?_⟩) ?_ ?_
                  rotate_left
                  · intro w'
                    go_simp
                    with_reducible rfl
                  rotate_left
                  · simp only [Act.put, List.setIfInBounds_toArray, List.set_cons_zero, List.set_cons_succ, i64_w, i32_w]
                    rfl
                  refine done_ (done_of HT_.out (by kernel_rfl)) ?_
                  try go_wp2
                  go_ret
                  exact ⟨by first | rfl | (simp [errW_none, errW_some] <;> rfl) | (simp [*, errW_none, errW_some] <;> rfl), by repeat (first | (with_reducible first | exact HB.out | apply below_alloc | apply pw_below_drewN | apply below_drew1 | refine below_set ?_ GE575.out | refine below_set ?_ GE581.out) | exact HB.out)⟩
              · rw [if_neg c158] at H
                have c158b0 : (t604 == (decide (t605 ≤ 64))) = false := by simpa using c158
                (try (have c158b1 : decide (t604 = (decide (t605 ≤ 64))) = false := by simpa using c158))
                (try (have c158b2 : (t604 == (decide (t605 ≤ 64))) = false := by simpa using c158))
                (try (have c158b3 : ¬ (t604 = (decide (t605 ≤ 64))) := by simpa using c158))
                clear c158
                obtain rfl := Option.some.inj H
                have hnb184 := NB575_581.out
                have hnc184 := NB581_575.out
                have hcz185_0 : wc.cell? ⟨gb575, 0, none⟩ = some (.slice Ao11 t569.length co11) := (blk_cell BK575.out 0).trans rfl
                have hfz185_0 := blk_frozen BK575.out 0
                try go_wp2_with (first | ((with_reducible refine gate_callee (f := 32) rfl ?_); refine goesL_ (some 95) rfl rfl Try.func32 (by kernel_rfl) rfl #[.agg #[.slice Ao11 t569.length co11]] rfl (by (try simp only [List.map_toArray, List.map_cons, List.map_nil]); first | done | rfl | (simp only [List.length_drop, List.length_take]; rfl)) ?_; (with_reducible refine (nat_Nat_Small.calls _ _ t569 t603 t604 _ ?side1 ?side2 A156.out).mono ?_); (case side1 => repeat (first | exact (Kd.V_reads' HO_576000.out).2.2 | (with_reducible refine Kd.C_alloc ?_ _) | (with_reducible refine Kd.C_drewN ?_ _) | (with_reducible refine Kd.C_drew ?_))); (case side2 => exact (Kd.V_reads' HO_576000.out).2.1); rintro e w186 ⟨rfl, hb⟩; refine ⟨_, rfl, ?_⟩; have n0_ := Aside0.mk (Kd.V_below (by (with_reducible repeat (first | apply Kd.V_alloc | apply Kd.V_drewN | apply Kd.V_drew)); exact HO_576000.out) hb); have n1_ := Aside0.mk (Kd.V_below (by (with_reducible repeat (first | apply Kd.V_alloc | apply Kd.V_drewN | apply Kd.V_drew)); exact HO_582000.out) hb); have n2_ := Aside0.mk (blk_below (g := gb575) (o := .cells #[.slice Ao11 t569.length co11] 31 (0, 0)) (by (with_reducible repeat (first | refine blk_drewN ?_ _ | refine blk_drew ?_ | refine blk_alloc ?_ _)); exact BK575.out) hb); have n3_ := Aside0.mk (blk_below (g := gb581) (o := .cells #[.slice Ao15 t576.length co15] 31 (0, 0)) (by (with_reducible repeat (first | refine blk_drewN ?_ _ | refine blk_drew ?_ | refine blk_alloc ?_ _)); exact BK581.out) hb); have n4_ := Aside0.mk (below_step (by repeat (first | (with_reducible first | exact HB.out | apply below_alloc | apply pw_below_drewN | apply below_drew1 | refine below_set ?_ GE575.out | refine below_set ?_ GE581.out) | exact HB.out)) hb); clear HO_576000; clear HO_582000; clear BK575; clear BK581; clear HB; have HO_576000 := n0_; have HO_582000 := n1_; have BK575 := n2_; have BK581 := n3_; have HB := n4_; clear n0_ n1_ n2_ n3_ n4_; (try clear hb); (try clear hb2); (try clear hk); (try clear hi)))
                have n0_ := Aside0.mk (Kd.V_drew HO_576000.out)
                have n1_ := Aside0.mk (Kd.V_drew HO_582000.out)
                have n2_ := Aside0.mk (blk_drew BK575.out)
                have n3_ := Aside0.mk (blk_drew BK581.out)
                have n4_ := Aside0.mk (below_drew1 HB.out)
                clear HO_576000
                clear HO_582000
                clear BK575
                clear BK581
                clear HB
                have HO_576000 := n0_
                have HO_582000 := n1_
                have BK575 := n2_
                have BK581 := n3_
                have HB := n4_
                clear n0_ n1_ n2_ n3_ n4_
                refine start_ (n := 24) (S := fun w' => w'.cell? ⟨gb575, 0, none⟩ = some (.slice Ao11 t569.length co11)) (ds := []) #[false, false, false, false, false, false, false, false, false, false, false, false, false, false, false, false, false, false, false, false, false, false, false, false] (by kernel_rfl) rfl rfl ((blk_cell BK575.out 0).trans rfl) (fun hHeld => ?_); refine with_tabW coxswainlaw03_NatOne.tab12 coxswainlaw03_NatOne.bits12 (fun HT_ HW_ => ?_)
                generalize w186.drew = w187 at HO_576000 HO_582000 BK575 BK581 HB hHeld ⊢
                refine pure_ (i := 0) (N := some 98) (v := ?_) (a' := ?_) #[true, false, false, false, false, false, false, false, false, false, false, false, false, false, false, false, false, false, false, false, false, false, false, false] rfl rfl (any_of HT_.out (by kernel_rfl)) (fun _ _ _ h => h) (Or.inl ⟨by rfl, ?_⟩) ?_ ?_
                rotate_left
                · intro w'
                  go_simp
                  with_reducible rfl
                rotate_left
                · simp only [Act.put, List.setIfInBounds_toArray, List.set_cons_zero, List.set_cons_succ, i64_w, i32_w]
                  rfl
                refine take_ (i := 1) (N := some 99) (v := ?_) (a' := ?_) #[true, true, false, false, false, false, false, false, false, false, false, false, false, false, false, false, false, false, false, false, false, false, false, false] rfl rfl (take_ofW HT_.out HW_.out (by kernel_rfl)) (fun _ _ _ h => h) (Or.inl ⟨by rfl, ?_⟩) hHeld ?_ ?_
                rotate_left
                · intro w' s0
                  go_simp
                  with_reducible rfl
                rotate_left
                · simp only [Act.put, List.setIfInBounds_toArray, List.set_cons_zero, List.set_cons_succ, i64_w, i32_w]
                  rfl
                refine one_ (i := 2) (N := some 100) #[true, true, true, false, false, false, false, false, false, false, false, false, false, false, false, false, false, false, false, false, false, false, false, false] rfl rfl (one_of HT_.out (by kernel_rfl)) (by decide) (fun K hK => ?_)
                refine goes_ Try.func22 (by kernel_rfl) rfl #[.agg #[.slice Ao11 t569.length co11]] (by rfl) rfl rfl (by (try simp only [List.map_toArray, List.map_cons, List.map_nil]); first | done | rfl | (simp only [List.length_drop, List.length_take]; rfl)) ?_
                with_reducible refine (nat_Nat_Bits.calls _ _ t569 t605 _ ?side1 ?side2 A157.out).mono ?_
                (case side1 => repeat (first | exact (Kd.V_reads' HO_576000.out).2.2 | (with_reducible refine Kd.C_alloc ?_ _) | (with_reducible refine Kd.C_drewN ?_ _) | (with_reducible refine Kd.C_drew ?_)))
                (case side2 => exact (Kd.V_reads' HO_576000.out).2.1)
                rintro e w188 ⟨rfl, hb⟩
                refine ⟨_, rfl, ?_⟩
                have n0_ := Aside0.mk (Kd.V_below (by (with_reducible repeat (first | apply Kd.V_alloc | apply Kd.V_drewN | apply Kd.V_drew)); exact HO_576000.out) hb)
                have n1_ := Aside0.mk (Kd.V_below (by (with_reducible repeat (first | apply Kd.V_alloc | apply Kd.V_drewN | apply Kd.V_drew)); exact HO_582000.out) hb)
                have n2_ := Aside0.mk (blk_below (g := gb575) (o := .cells #[.slice Ao11 t569.length co11] 31 (0, 0)) (by (with_reducible repeat (first | refine blk_drewN ?_ _ | refine blk_drew ?_ | refine blk_alloc ?_ _)); exact BK575.out) hb)
                have n3_ := Aside0.mk (blk_below (g := gb581) (o := .cells #[.slice Ao15 t576.length co15] 31 (0, 0)) (by (with_reducible repeat (first | refine blk_drewN ?_ _ | refine blk_drew ?_ | refine blk_alloc ?_ _)); exact BK581.out) hb)
                have n4_ := Aside0.mk (below_step (by repeat (first | (with_reducible first | exact HB.out | apply below_alloc | apply pw_below_drewN | apply below_drew1 | refine below_set ?_ GE575.out | refine below_set ?_ GE581.out) | exact HB.out)) hb)
                clear HO_576000
                clear HO_582000
                clear BK575
                clear BK581
                clear HB
                have HO_576000 := n0_
                have HO_582000 := n1_
                have BK575 := n2_
                have BK581 := n3_
                have HB := n4_
                clear n0_ n1_ n2_ n3_ n4_
                (try clear hb)
                (try clear hb2)
                (try clear hk)
                (try clear hi)
                refine hK.out _ _ ((blk_cell BK575.out 0).trans rfl) (fun hHeld => ?_)
                clear hK K
                refine norm_ (a' := ?_) ?_ ?_
                rotate_left
                · show Act.put _ (some 100) _ = _
                  simp only [Act.put, List.setIfInBounds_toArray, List.set_cons_zero, List.set_cons_succ, i64_w, i32_w]
                  rfl
                refine pure_ (i := 3) (N := some 101) (v := ?_) (a' := ?_) #[true, true, true, true, false, false, false, false, false, false, false, false, false, false, false, false, false, false, false, false, false, false, false, false] rfl rfl (any_of HT_.out (by kernel_rfl)) (fun _ _ _ h => h) (Or.inl ⟨by rfl, ?_⟩) ?_ ?_
                rotate_left
                · intro w'
                  go_simp
                  with_reducible rfl
                rotate_left
                · simp only [Act.put, List.setIfInBounds_toArray, List.set_cons_zero, List.set_cons_succ, i64_w, i32_w]
                  rfl
                refine pure_ (i := 4) (N := some 102) (v := ?_) (a' := ?_) #[true, true, true, true, true, false, false, false, false, false, false, false, false, false, false, false, false, false, false, false, false, false, false, false] rfl rfl (any_of HT_.out (by kernel_rfl)) (fun _ _ _ h => h) (Or.inl ⟨by rfl, ?_⟩) ?_ ?_
                rotate_left
                · intro w'
                  go_simp
                  with_reducible rfl
                rotate_left
                · simp only [Act.put, List.setIfInBounds_toArray, List.set_cons_zero, List.set_cons_succ, i64_w, i32_w]
                  rfl
                refine pure_ (i := 5) (N := some 103) (v := ?_) (a' := ?_) #[true, true, true, true, true, true, false, false, false, false, false, false, false, false, false, false, false, false, false, false, false, false, false, false] rfl rfl (any_of HT_.out (by kernel_rfl)) (fun _ _ _ h => h) (Or.inl ⟨by rfl, ?_⟩) ?_ ?_
                rotate_left
                · intro w'
                  go_simp
                  with_reducible rfl
                rotate_left
                · simp only [Act.put, List.setIfInBounds_toArray, List.set_cons_zero, List.set_cons_succ, i64_w, i32_w]
                  rfl
                refine pure_ (i := 6) (N := some 104) (v := undef) (a' := ?_) #[true, true, true, true, true, true, true, false, false, false, false, false, false, false, false, false, false, false, false, false, false, false, false, false] rfl rfl (any_of HT_.out (by kernel_rfl)) (fun _ _ _ h => h) (Or.inr ⟨by rfl, rfl⟩) ?_ ?_
                rotate_left
                · simp only [Act.put, List.setIfInBounds_toArray, List.set_cons_zero, List.set_cons_succ, i64_w, i32_w]
                  rfl
                refine pure_ (i := 7) (N := some 105) (v := undef) (a' := ?_) #[true, true, true, true, true, true, true, true, false, false, false, false, false, false, false, false, false, false, false, false, false, false, false, false] rfl rfl (any_of HT_.out (by kernel_rfl)) (fun _ _ _ h => h) (Or.inr ⟨by rfl, rfl⟩) ?_ ?_
                rotate_left
                · simp only [Act.put, List.setIfInBounds_toArray, List.set_cons_zero, List.set_cons_succ, i64_w, i32_w]
                  rfl
                refine pure_ (i := 8) (N := some 106) (v := undef) (a' := ?_) #[true, true, true, true, true, true, true, true, true, false, false, false, false, false, false, false, false, false, false, false, false, false, false, false] rfl rfl (any_of HT_.out (by kernel_rfl)) (fun _ _ _ h => h) (Or.inr ⟨by rfl, rfl⟩) ?_ ?_
                rotate_left
                · simp only [Act.put, List.setIfInBounds_toArray, List.set_cons_zero, List.set_cons_succ, i64_w, i32_w]
                  rfl
                refine pure_ (i := 9) (N := some 107) (v := undef) (a' := ?_) #[true, true, true, true, true, true, true, true, true, true, false, false, false, false, false, false, false, false, false, false, false, false, false, false] rfl rfl (any_of HT_.out (by kernel_rfl)) (fun _ _ _ h => h) (Or.inr ⟨by rfl, rfl⟩) ?_ ?_
                rotate_left
                · simp only [Act.put, List.setIfInBounds_toArray, List.set_cons_zero, List.set_cons_succ, i64_w, i32_w]
                  rfl
                refine pure_ (i := 10) (N := some 108) (v := undef) (a' := ?_) #[true, true, true, true, true, true, true, true, true, true, true, false, false, false, false, false, false, false, false, false, false, false, false, false] rfl rfl (any_of HT_.out (by kernel_rfl)) (fun _ _ _ h => h) (Or.inr ⟨by rfl, rfl⟩) ?_ ?_
                rotate_left
                · simp only [Act.put, List.setIfInBounds_toArray, List.set_cons_zero, List.set_cons_succ, i64_w, i32_w]
                  rfl
                refine pure_ (i := 11) (N := some 109) (v := undef) (a' := ?_) #[true, true, true, true, true, true, true, true, true, true, true, true, false, false, false, false, false, false, false, false, false, false, false, false] rfl rfl (any_of HT_.out (by kernel_rfl)) (fun _ _ _ h => h) (Or.inr ⟨by rfl, rfl⟩) ?_ ?_
                rotate_left
                · simp only [Act.put, List.setIfInBounds_toArray, List.set_cons_zero, List.set_cons_succ, i64_w, i32_w]
                  rfl
                refine pure_ (i := 12) (N := some 110) (v := undef) (a' := ?_) #[true, true, true, true, true, true, true, true, true, true, true, true, true, false, false, false, false, false, false, false, false, false, false, false] rfl rfl (any_of HT_.out (by kernel_rfl)) (fun _ _ _ h => h) (Or.inr ⟨by rfl, rfl⟩) ?_ ?_
                rotate_left
                · simp only [Act.put, List.setIfInBounds_toArray, List.set_cons_zero, List.set_cons_succ, i64_w, i32_w]
                  rfl
                refine pure_ (i := 13) (N := some 111) (v := undef) (a' := ?_) #[true, true, true, true, true, true, true, true, true, true, true, true, true, true, false, false, false, false, false, false, false, false, false, false] rfl rfl (any_of HT_.out (by kernel_rfl)) (fun _ _ _ h => h) (Or.inr ⟨by rfl, rfl⟩) ?_ ?_
                rotate_left
                · simp only [Act.put, List.setIfInBounds_toArray, List.set_cons_zero, List.set_cons_succ, i64_w, i32_w]
                  rfl
                refine pure_ (i := 14) (N := some 112) (v := undef) (a' := ?_) #[true, true, true, true, true, true, true, true, true, true, true, true, true, true, true, false, false, false, false, false, false, false, false, false] rfl rfl (any_of HT_.out (by kernel_rfl)) (fun _ _ _ h => h) (Or.inr ⟨by rfl, rfl⟩) ?_ ?_
                rotate_left
                · simp only [Act.put, List.setIfInBounds_toArray, List.set_cons_zero, List.set_cons_succ, i64_w, i32_w]
                  rfl
                refine pure_ (i := 15) (N := some 113) (v := undef) (a' := ?_) #[true, true, true, true, true, true, true, true, true, true, true, true, true, true, true, true, false, false, false, false, false, false, false, false] rfl rfl (any_of HT_.out (by kernel_rfl)) (fun _ _ _ h => h) (Or.inr ⟨by rfl, rfl⟩) ?_ ?_
                rotate_left
                · simp only [Act.put, List.setIfInBounds_toArray, List.set_cons_zero, List.set_cons_succ, i64_w, i32_w]
                  rfl
                refine pure_ (i := 16) (N := some 114) (v := undef) (a' := ?_) #[true, true, true, true, true, true, true, true, true, true, true, true, true, true, true, true, true, false, false, false, false, false, false, false] rfl rfl (any_of HT_.out (by kernel_rfl)) (fun _ _ _ h => h) (Or.inr ⟨by rfl, rfl⟩) ?_ ?_
                rotate_left
                · simp only [Act.put, List.setIfInBounds_toArray, List.set_cons_zero, List.set_cons_succ, i64_w, i32_w]
                  rfl
                refine pure_ (i := 17) (N := some 115) (v := undef) (a' := ?_) #[true, true, true, true, true, true, true, true, true, true, true, true, true, true, true, true, true, true, false, false, false, false, false, false] rfl rfl (any_of HT_.out (by kernel_rfl)) (fun _ _ _ h => h) (Or.inr ⟨by rfl, rfl⟩) ?_ ?_
                rotate_left
                · simp only [Act.put, List.setIfInBounds_toArray, List.set_cons_zero, List.set_cons_succ, i64_w, i32_w]
                  rfl
                refine pure_ (i := 18) (N := some 116) (v := undef) (a' := ?_) #[true, true, true, true, true, true, true, true, true, true, true, true, true, true, true, true, true, true, true, false, false, false, false, false] rfl rfl (any_of HT_.out (by kernel_rfl)) (fun _ _ _ h => h) (Or.inr ⟨by rfl, rfl⟩) ?_ ?_
                rotate_left
                · simp only [Act.put, List.setIfInBounds_toArray, List.set_cons_zero, List.set_cons_succ, i64_w, i32_w]
                  rfl
                refine pure_ (i := 19) (N := some 117) (v := undef) (a' := ?_) #[true, true, true, true, true, true, true, true, true, true, true, true, true, true, true, true, true, true, true, true, false, false, false, false] rfl rfl (any_of HT_.out (by kernel_rfl)) (fun _ _ _ h => h) (Or.inr ⟨by rfl, rfl⟩) ?_ ?_
                rotate_left
                · simp only [Act.put, List.setIfInBounds_toArray, List.set_cons_zero, List.set_cons_succ, i64_w, i32_w]
                  rfl
                refine pure_ (i := 20) (N := some 118) (v := undef) (a' := ?_) #[true, true, true, true, true, true, true, true, true, true, true, true, true, true, true, true, true, true, true, true, true, false, false, false] rfl rfl (any_of HT_.out (by kernel_rfl)) (fun _ _ _ h => h) (Or.inr ⟨by rfl, rfl⟩) ?_ ?_
                rotate_left
                · simp only [Act.put, List.setIfInBounds_toArray, List.set_cons_zero, List.set_cons_succ, i64_w, i32_w]
                  rfl
                refine pure_ (i := 21) (N := some 119) (v := undef) (a' := ?_) #[true, true, true, true, true, true, true, true, true, true, true, true, true, true, true, true, true, true, true, true, true, true, false, false] rfl rfl (any_of HT_.out (by kernel_rfl)) (fun _ _ _ h => h) (Or.inr ⟨by rfl, rfl⟩) ?_ ?_
                rotate_left
                · simp only [Act.put, List.setIfInBounds_toArray, List.set_cons_zero, List.set_cons_succ, i64_w, i32_w]
                  rfl
                refine pure_ (i := 22) (N := some 120) (v := ?_) (a' := ?_) #[true, true, true, true, true, true, true, true, true, true, true, true, true, true, true, true, true, true, true, true, true, true, true, false] rfl rfl (any_of HT_.out (by kernel_rfl)) (fun _ _ _ h => h) (Or.inl ⟨by rfl, ?_⟩) ?_ ?_
                rotate_left
                · intro w'
                  go_simp
                  with_reducible rfl
                rotate_left
                · simp only [Act.put, List.setIfInBounds_toArray, List.set_cons_zero, List.set_cons_succ, i64_w, i32_w]
                  rfl
                refine pure_ (i := 23) (N := some 4) (v := ?_) (a' := ?_) #[true, true, true, true, true, true, true, true, true, true, true, true, true, true, true, true, true, true, true, true, true, true, true, true] rfl rfl (any_of HT_.out (by kernel_rfl)) (fun _ _ _ h => h) (Or.inl ⟨by rfl, ?_⟩) ?_ ?_
                rotate_left
                · intro w'
                  go_simp
                  with_reducible rfl
                rotate_left
                · simp only [Act.put, List.setIfInBounds_toArray, List.set_cons_zero, List.set_cons_succ, i64_w, i32_w]
                  rfl
                refine done_ (done_of HT_.out (by kernel_rfl)) ?_
                try go_wp2
                go_ret
                exact ⟨by first | rfl | (simp [errW_none, errW_some] <;> rfl) | (simp [*, errW_none, errW_some] <;> rfl), by repeat (first | (with_reducible first | exact HB.out | apply below_alloc | apply pw_below_drewN | apply below_drew1 | refine below_set ?_ GE575.out | refine below_set ?_ GE581.out) | exact HB.out)⟩
  · replace c4 := Bool.eq_false_iff.mpr c4
    subst c4
    have H1 : (some false) = some r := by rw [if_neg (show ¬ (false = true) by decide)] at H; exact H
    clear H
    have H := H1
    clear H1
    obtain rfl := Option.some.inj H
    go_enter Try.func12, Try.ntmps12
    go_wp2_with (first | ((with_reducible refine gate_callee (f := 19) rfl ?_); refine goesL_ (some 14) rfl rfl Try.func19 (by kernel_rfl) rfl #[] rfl (by (try simp only [List.map_toArray, List.map_cons, List.map_nil]); first | done | rfl | (simp only [List.length_drop, List.length_take]; rfl)) ?_; (with_reducible refine (coxswainlaw03_awake.calls k  false _ A3.out).mono ?_); rintro e w189 ⟨rfl, hb⟩; refine ⟨_, rfl, ?_⟩; have n0_ := Aside0.mk (below_step (by repeat (first | (with_reducible first | exact HB.out | apply below_alloc | apply pw_below_drewN | apply below_drew1) | exact HB.out)) hb); clear HB; have HB := n0_; clear n0_; (try clear hb); (try clear hb2); (try clear hk); (try clear hi)))
    go_ret
    exact ⟨by first | rfl | (simp [errW_none, errW_some] <;> rfl) | (simp [*, errW_none, errW_some] <;> rfl), by repeat (first | (with_reducible first | exact HB.out | apply below_alloc | apply pw_below_drewN | apply below_drew1) | exact HB.out)⟩

/-- THE ONE PURE STATEMENT of coxswainlaw03_NatOne: yours. -/
def coxswainlaw03_NatOne.Pure : Prop := ∀ (a0 : ByteArray) (a1 : Int), a0.size ≤ 140737488351232 → (Lit.int .u32 a1).wf = true → ∃ k, coxswainlaw03_NatOne.f k a0 a1 = some true
theorem coxswainlaw03_NatOne.walk (P : coxswainlaw03_NatOne.Pure) (a0 : ByteArray) (a1 : Int) (w : World) (w0 : a0.size ≤ 140737488351232) (w1 : (Lit.int .u32 a1).wf = true) :
    Calls Try.prog 12 #[.string a0, .int .u32 a1] w fun e w' => e = .returned (.bool true) ∧ Below w.heap.size w w' := by
  obtain ⟨k, h⟩ := P a0 a1 w0 w1
  refine (coxswainlaw03_NatOne.calls k a0 a1 true w h).mono ?_
  rintro e w' ⟨rfl, hd⟩
  exact ⟨rfl, hd⟩

end Go.Proofs.Ytclmdidgioggdaa.Q
