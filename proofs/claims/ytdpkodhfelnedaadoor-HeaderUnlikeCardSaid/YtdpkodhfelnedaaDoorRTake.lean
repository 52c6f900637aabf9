/- ref05.TakeNum, TakeRaw: the walks. -/
import Derived.Test.YtdpkodhfelnedaaDoorHdM
import Derived.Test.YtdpkodhfelnedaaDoorHead
import Derived.Laws.Rows
namespace Go.Proofs.YtdpkodhfelnedaaDoor.Cod
open Go.RowKit
theorem result_2 {P : Program} {w : World} {fn : Func} {tmps : Array Value} {x y : Tmp} {t : TypeId} {p : Addr} {v u : Value} (h : fn.results = #[.cell x t, .tmp y]) (hx : tmps.getD x undef = .pointer (some p)) (hy : tmps.getD y undef = u) (hl : (loadVar t p).run P w = .ok v w) :
    (results fn tmps).run P w = .ok (.tuple #[v, u]) w := by
  simp only [Array.getD_eq_getD_getElem?] at hx hy
  simp [results, h, hx, hl, hy, asAddr]
def takenV (s : ByteArray) (e : Nat) : Value := .agg #[.string s, .int .i64 e]
end Go.Proofs.YtdpkodhfelnedaaDoor.Cod
