/- strings.Builder, as the one field of a struct or alone: contracts of what is called of it. T: the type of the block that it lies in. No condition but Go's own limit. -/
import Derived.Test.YtakefjdckacgpaaCod
import Derived.Test.YtakefjdckacgpaaProg
import Derived.WalkKit
import Derived.KernelRfl
import Derived.RegionTactic
import Derived.Outline
import Derived.Lib.OthersKept
import Derived.Lib.FrozenHead2
import Derived.Lib.UnsafeStr
import Derived.Lib.MakeNoZero
import Derived.Lib.AppendStr
import Derived.Lib.Walk
import Derived.Lib.Slices
import Derived.Lib.Strings
import Derived.Laws.Externs
namespace Go.Proofs.Ytakefjdckacgpaa.Cod
open Go.RowKit
/-- the builder in block b, that has bytes l, all its own from block B on -/
def Bd (T : TypeId) (B b : Nat) (l : List UInt8) (w : World) : Prop := Lib.IsBuilderF T 5 B b (Lib.byteCells l) w
/-- what a write leaves of all else -/
def Fr (B b : Nat) (w w' : World) : Prop := Below B w w' ∧ Lib.OthersKept 5 (some b) w w'
theorem Fr.refl (B b : Nat) (w : World) : Fr B b w w := ⟨Below.refl _ _, Lib.OthersKept.refl _ _ _⟩
theorem Fr.trans {B b : Nat} {x y z : World} (h : Fr B b x y) (k : Fr B b y z) : Fr B b x z := ⟨h.1.trans k.1, h.2.trans k.2⟩
theorem Fr.drew (B b : Nat) (w : World) : Fr B b w w.drew := ⟨(Below.refl _ _).drew, (Lib.OthersKept.refl _ _ _).drew⟩
theorem infoByte : (Try.prog.info? 5).map (fun i => (i.zero, i.size, i.bytes)) = some (some (.int .u8 0), 1, 1) := by kernel_rfl
theorem Bd.lt {T : TypeId} {B b : Nat} {l : List UInt8} {w : World} (h : Bd T B b l w) : b < w.heap.size ∧ B ≤ b := by
  rcases h with h | h
  · exact ⟨h.lt, h.1⟩
  · exact ⟨h.lt, h.1⟩
end Go.Proofs.Ytakefjdckacgpaa.Cod
