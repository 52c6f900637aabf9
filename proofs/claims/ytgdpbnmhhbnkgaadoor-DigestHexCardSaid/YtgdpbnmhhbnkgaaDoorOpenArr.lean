/- An array of 32 bytes among a law's arguments. -/
import Derived.Test.YtgdpbnmhhbnkgaaDoorId
import Derived.OpenShut
import Derived.ProofKit
import Derived.RowKit
import Derived.WideShapes
namespace Go.Proofs.YtgdpbnmhhbnkgaaDoor.Cod
open Go.ChangeShapes Go.WideShapes Go.ChangeAt Go.RowKit
theorem okWide_array {P : Program} {w : World} {r : Reach} {base n : Nat} {t e : TypeId} {v : Value} (ht : P.underlying t = some (.array n e)) (h : Value.okWide P w r base t v) : ∃ cs, v = .agg cs ∧ cs.size = P.cellsOf t := by
  unfold Value.okWide at h
  rw [ht] at h
  obtain ⟨cs, h1, h2, _⟩ := h
  exact ⟨cs, h1, h2⟩
def byteOf (v : Value) : UInt8 := match v with | .int _ a => UInt8.ofNat a.toNat | _ => 0
theorem open_bytes {H : Type} {enc : TypeId × Value → H} {P : Program} {w : World} {base b0 : Nat} {r : Reach} {spare : Nat → Bool} {held : Bool} {t e n : Nat} {v : Value} {d : DataW H} {p : List MemPlace} (ht : P.underlying t = some (.array n e)) (he : P.underlying e = some (.int .u8)) (hc : P.cellsOf e = 1) (hC : P.cellsOf t = n)
    (hv : Value.okWide P w r b0 t v) (h : DataW.Trod enc P w base spare held t v d p) : ∃ l : List UInt8, l.length = n ∧ v = idv l := by
  obtain ⟨cs, rfl, hsz⟩ := okWide_array ht hv
  obtain ⟨fuel, hf⟩ := h
  obtain ⟨xs, m, rfl, hx, hl, hn, hi⟩ := DataW.trod_array ht hf
  have hcs : cs.size = n := hsz.trans hC
  refine ⟨cs.toList.map byteOf, by simp [hcs], ?_⟩
  unfold idv Lib.byteCells
  congr 1
  refine Array.ext (by simp) fun i h1 h2 => ?_
  have hin : i < n := by omega
  have h3 := hi i hin
  have hcell : (Value.cells (.agg cs)).toList = cs.toList := by simp [Value.cells]
  rw [hc, Nat.mul_one, hcell, List.getElem?_eq_getElem (by omega : i < xs.length)] at h3
  obtain ⟨a, ea, _, hw⟩ := DataW.trod_int he h3
  have h4 : cs[i] = .int .u8 a := by
    have := congrArg (·[0]?) ea
    simpa [List.getElem?_take, List.getElem?_drop, h1] using this
  have hb := bounds_u8 hw
  simp only [List.getElem_toArray, List.getElem_map, Array.getElem_toList, h4, byteOf]
  rw [UInt8.toNat_ofNat', Nat.mod_eq_of_lt (by omega)]
  congr 1
  omega
end Go.Proofs.YtgdpbnmhhbnkgaaDoor.Cod
