/- '==' of two names (arrays of 32 bytes). -/
import Derived.Test.YtdpkodhfelnedaaDoorId
import Derived.ChangeKeysEq
namespace Go.Proofs.YtdpkodhfelnedaaDoor.Cod
open Go.RowKit
theorem eqItems_bytes (d : Nat) (l l' : List UInt8) (h : l.length = 32) (h' : l'.length = 32) (w : World) : ∀ is : List Nat, (∀ i ∈ is, i < 32) →
    (Op.eqItems (d + 1) 5 1 (Lib.byteCells l).toArray (Lib.byteCells l').toArray is).run Tryd.prog w = .ok (is.all fun i => decide (l[i]? = l'[i]?)) w
  | [], _ => by simp [Op.eqItems]
  | i :: is, hi => by
    have ih := eqItems_bytes d l l' h h' w is (fun j hj => hi j (by simp [hj]))
    have h0 := hi i (by simp)
    have he : Tryd.prog.plainKey 5 = true := by kernel_rfl
    have a1 : (Lib.byteCells l).toArray[i * 1]? = some (.int .u8 (l[i].toNat : Int)) := by
      simp [Lib.byteCells, show i < l.length by omega]
    have a2 : (Lib.byteCells l').toArray[i * 1]? = some (.int .u8 (l'[i].toNat : Int)) := by
      simp [Lib.byteCells, show i < l'.length by omega]
    have p1 := run_part_plain (P := Tryd.prog) w he a1
    have p2 := run_part_plain (P := Tryd.prog) w he a2
    have p3 := run_equalIn_int (P := Tryd.prog) w d 5 .u8 .u8 (l[i].toNat : Int) (l'[i].toNat : Int) Tryd.underlying5
    simp only [Op.eqItems, Sem.run_bind, p1, p2, p3, Result.andThen_ok]
    rw [List.all_cons, List.getElem?_eq_getElem (show i < l.length by omega), List.getElem?_eq_getElem (show i < l'.length by omega)]
    by_cases hq : l[i] = l'[i]
    · rw [hq]
      simp [ih]
    · have hn : ¬ ((l[i].toNat : Int) = (l'[i].toNat : Int)) := fun e => hq (UInt8.toNat_inj.1 (by omega))
      simp [hq, hn]
theorem all_same (l l' : List UInt8) (n : Nat) (h : l.length = n) (h' : l'.length = n) : ((List.range n).all fun i => decide (l[i]? = l'[i]?)) = decide (l = l') := by
  rw [Bool.eq_iff_iff]
  simp only [List.all_eq_true, List.mem_range, decide_eq_true_eq]
  constructor
  · intro hall
    refine List.ext_getElem? fun i => ?_
    by_cases hi : i < n
    · exact hall i hi
    · rw [List.getElem?_eq_none (by omega), List.getElem?_eq_none (by omega)]
  · rintro rfl _ _
    rfl
theorem eqId (l l' : List UInt8) (h : l.length = 32) (h' : l'.length = 32) (w : World) (d : Nat) : (Op.equalIn (d + 2) 36 (idv l) (idv l')).run Tryd.prog w = .ok (decide (l = l')) w := by
  obtain ⟨i, hi⟩ : ∃ i, Tryd.prog.info? 5 = some i := Option.isSome_iff_exists.1 (by kernel_rfl)
  unfold idv
  rw [run_equalIn_array w (d + 1) _ _ Tryd.underlying36 hi, show Tryd.prog.cellsOf 5 = 1 by kernel_rfl]
  rw [eqItems_bytes d l l' h h' w (List.range 32) (fun i hi => List.mem_range.1 hi)]
  rw [all_same l l' 32 h h']
end Go.Proofs.YtdpkodhfelnedaaDoor.Cod
