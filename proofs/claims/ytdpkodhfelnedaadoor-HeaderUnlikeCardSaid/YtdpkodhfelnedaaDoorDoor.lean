/- What the tied cards' condition gives the walks: both package variables as at the start. -/
import Derived.Test.YtdpkodhfelnedaaDoorRows
import Derived.Test.YtdpkodhfelnedaaDoorMix
import Derived.ProofKit
import Derived.LaidMore
import Derived.OpenShut
import Derived.Stop.Joined
namespace Go.Proofs.YtdpkodhfelnedaaDoor.Cod
open Go.ChangeShapes Go.WideShapes Go.ChangeAt Go.RowKit
def laid2 : List (String × DataW Unit) := [("coxswain/digest.start", Rows.laid_coxswain_digest_start), ("coxswain/digest.key", Rows.laid_coxswain_digest_key)]
theorem gStart : Tryd.prog.globalNamed "coxswain/digest.start" = some 0 := by kernel_rfl
theorem gKey : Tryd.prog.globalNamed "coxswain/digest.key" = some 1 := by kernel_rfl
theorem tStart : (Tryd.prog.globals[0]?).map (·.type) = some 70 := by kernel_rfl
theorem tKey : (Tryd.prog.globals[1]?).map (·.type) = some 82 := by kernel_rfl
theorem door_met (os : Os) (args : Array Value) : laidMetH Tryd.prog laid2 ((World.doorLaid Tryd.prog 400 os).forCall (fun _ _ => 0) ⟨#[], args, []⟩).memory :=
  laidMetH_of_parts3 (fuel := 80) (laidMet_of_run' 80 (by kernel_rfl) (by kernel_rfl)) (by kernel_rfl) (by kernel_rfl)
theorem row_of_trod {H : Type} {enc : TypeId × Value → H} {P : Program} {w : World} {base : Nat} {spare : Nat → Bool} {held : Bool} {T e n : Nat} (hu : P.underlying T = some (.array n e)) (he : P.underlying e = some (.int .u32)) (hc : P.cellsOf e = 1) (hcT : P.cellsOf T = n)
    {fuel : Nat} {cs : List Value} {l : List Nat} {p : List MemPlace} (h : DataW.trod enc P w base spare held fuel T cs = some (.agg (l.map fun x : Nat => .lit (.int .u32 x)), p)) : cs = l.map fun x : Nat => Value.int .u32 x := by
  obtain ⟨xs, m, rfl, hx, hl, hn, hi⟩ := DataW.trod_array hu h
  injection hx with hx1 _
  injection hx1 with hx1
  have hll : l.length = n := by have := congrArg List.length hx1; simpa [hn] using this
  rw [hcT] at hl
  refine List.ext_getElem? fun i => ?_
  by_cases hlt : i < n
  · have h1 := hi i hlt
    rw [hc, Nat.mul_one, List.getElem?_eq_getElem (by omega : i < xs.length)] at h1
    obtain ⟨a, ea, ex, _⟩ := DataW.trod_int he h1
    have h2 : (l.map fun x : Nat => (DataW.lit (.int .u32 x) : DataW H))[i]? = (xs.map (·.1))[i]? := by rw [hx1]
    rw [List.getElem?_map, List.getElem?_map, List.getElem?_eq_getElem (by omega : i < xs.length), List.getElem?_eq_getElem (by omega : i < l.length), ex] at h2
    simp at h2
    have h3 : cs[i]? = some (.int .u32 a) := by
      have := congrArg (·[0]?) ea
      simpa [List.getElem?_take, List.getElem?_drop] using this
    rw [h3, List.getElem?_map, List.getElem?_eq_getElem (by omega : i < l.length)]
    simp [h2]
  · rw [List.getElem?_eq_none (by omega), List.getElem?_eq_none (by simp; omega)]
theorem of_laid {W : World} (h : laidMetH Tryd.prog laid2 W) : Laid W := by
  rw [MakeChecks.laidMetH_plain _ _ _ (by kernel_rfl)] at h
  obtain ⟨ps, ⟨g0, t0, cs0, f0, p0, q0, hg0, ht0, hv0, hd0, ⟨g1, t1, cs1, f1, p1, q1, hg1, ht1, hv1, hd1, _, _⟩, _⟩, _, _⟩ := h
  obtain rfl := Option.some.inj (gStart.symm.trans hg0)
  obtain rfl := Option.some.inj (gKey.symm.trans hg1)
  obtain rfl := Option.some.inj (tStart.symm.trans ht0)
  obtain rfl := Option.some.inj (tKey.symm.trans ht1)
  rename_i hLV hnd hall hps hq0
  have e0 := row_of_trod (l := STARTS) Tryd.underlying70 Tryd.underlying69 (by kernel_rfl) (by kernel_rfl) (show _ = some (DataW.agg (STARTS.map fun x : Nat => DataW.lit (.int .u32 x)), p0) from hd0)
  have e1 := row_of_trod (l := KEYS) Tryd.underlying82 Tryd.underlying69 (by kernel_rfl) (by kernel_rfl) (show _ = some (DataW.agg (KEYS.map fun x : Nat => DataW.lit (.int .u32 x)), p1) from hd1)
  have step : ∀ (g : Nat) (cs : Array Value) (name : String), Tryd.prog.globalNamed name = some g → World.var? Tryd.prog W name = some cs → (∃ c t, W.heap[g]? = some (Obj.cells c t)) → ∃ T, W.heap[g]? = some (.cells cs T (0, 0)) := by
    intro g cs name hg hv ⟨c, t, hh⟩
    simp only [World.var?, hg, Option.bind_some, hh] at hv
    obtain rfl := Option.some.inj hv
    exact ⟨t, hh⟩
  have c0 : cs0 = cells8 H0 := by
    have : cs0 = (STARTS.map fun x : Nat => Value.int .u32 x).toArray := by rw [← e0]
    exact this
  have c1 : cs1 = wordsA KEYS := by
    have : cs1 = (KEYS.map fun x : Nat => Value.int .u32 x).toArray := by rw [← e1]
    exact this
  have s0 : 0 < cs0.size := by rw [c0]; decide
  have s1 : 0 < cs1.size := by rw [c1]; decide
  have m0 : MemPlace.cell 0 0 ∈ ps := by
    rw [hps]
    exact List.mem_append_left _ (List.mem_append_left _ (List.mem_map.2 ⟨0, List.mem_range.2 s0, rfl⟩))
  have m1 : MemPlace.cell 1 0 ∈ ps := by
    rw [hps, hq0]
    exact List.mem_append_right _ (List.mem_append_left _ (List.mem_append_left _ (List.mem_map.2 ⟨0, List.mem_range.2 s1, rfl⟩)))
  have r0 := step 0 cs0 _ hg0 hv0 (hall 0 0 m0).1
  have r1 := step 1 cs1 _ hg1 hv1 (hall 1 0 m1).1
  rw [c0] at r0
  rw [c1] at r1
  exact ⟨r0, r1⟩
end Go.Proofs.YtdpkodhfelnedaaDoor.Cod
