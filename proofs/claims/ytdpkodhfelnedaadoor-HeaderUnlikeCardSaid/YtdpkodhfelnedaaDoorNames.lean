/- header.Names: a key's names. Contract by what it means. -/
import Derived.Test.YtdpkodhfelnedaaDoorId
import Derived.Laws.CopyRow
import Derived.Deep.WholeRow
import Derived.OwnWalk
namespace Go.Proofs.YtdpkodhfelnedaaDoor.Cod
open Go.RowKit
theorem run_copy_id (W : World) (ty : TypeId) (b : Nat) (cur : Array Value) (hb : W.heap[b]? = some (.cells cur 36 (0, 0))) (hcs : cur.size = 32) (t : ByteArray) (ht : 32 ≤ t.size) :
    (Builtin.copy_ #[46, 9] ty #[.slice (some ⟨b, 0, none⟩) 32 32, .string t]).run Tryd.prog W = .ok (.int .i64 32) (W.setRow b (Lib.byteCells ((bl t).take 32)).toArray) := by
  have hn : Nat.min t.size 32 = 32 := Nat.min_eq_right ht
  have hl : ((bl t).take 32).length = 32 := by rw [List.length_take, bl_len]; omega
  have hlb : (Lib.byteCells ((bl t).take 32)).length = 32 := by rw [Lib.byteCells_length]; exact hl
  have hst := run_storeCells_at Tryd.prog b 0 36 (Lib.byteCells ((bl t).take 32)) 0 cur W hb (by simp only [Nat.zero_add, hlb, hcs]; omega) (all_one _)
  have e1 : cur.toList.drop (0 + 0 + (Lib.byteCells ((bl t).take 32)).length) = [] := List.drop_of_length_le (by simp only [Nat.zero_add, hlb, Array.length_toList, hcs]; omega)
  rw [e1] at hst
  simp only [Nat.zero_add, List.take_zero, List.nil_append, List.append_nil] at hst
  have hcells : (List.map (fun b : UInt8 => Value.int .u8 (b.toNat : Int)) t.data.toList).take 32 = Lib.byteCells ((bl t).take 32) := by
    simp [Lib.byteCells, bl, List.map_take]
  obtain ⟨i, hq, _, _, _⟩ := info_parts infoByte
  simp [Builtin.copy_, run_underlying Tryd.underlying46, Builtin.lenOf, Builtin.firstCells, sizeOf, typeInfo, hq, hn, goInt]
  rw [hcells, hst]
  rfl
/-- is it a key? -/
def cut32 (n : Nat) (l : List UInt8) : List (List UInt8) := match n with | 0 => [] | n + 1 => l.take 32 :: cut32 n (l.drop 32)
def isKey (l : List UInt8) : Bool := decide (l.length % 32 = 0 ∧ 1 ≤ l.length / 32 ∧ l.length / 32 ≤ 5) && rises (cut32 (l.length / 32) l)
set_option maxHeartbeats 800000 in
set_option maxRecDepth 100000 in
theorem C_among (x a b : Int) (w : World) : Calls Tryd.prog 28 #[.int .i64 x, .int .i64 a, .int .i64 b] w fun e w' => e = .returned (.bool (decide (a ≤ x ∧ x ≤ b))) ∧ w = w' := by
  by_cases h : a ≤ x
  · by_cases h2 : x ≤ b
    · rw [decide_eq_true ⟨h, h2⟩]
      go_enter Tryd.func28, Tryd.ntmps28
      go_wp2
      go_ret
      exact ⟨rfl, rfl⟩
    · rw [decide_eq_false (fun k => h2 k.2)]
      have h2' : ¬ x ≤ b := h2
      go_enter Tryd.func28, Tryd.ntmps28
      go_wp2
      go_ret
      exact ⟨rfl, rfl⟩
  · rw [decide_eq_false (fun k => h k.1)]
    go_enter Tryd.func28, Tryd.ntmps28
    go_wp2
    go_ret
    exact ⟨rfl, rfl⟩
theorem cut32_succ (n : Nat) (l : List UInt8) : cut32 (n + 1) l = l.take 32 :: cut32 n (l.drop 32) := rfl
theorem infoId : (Tryd.prog.info? 36).map (fun i => (i.zero, i.size, i.bytes)) = some (some (.agg (Array.replicate 32 (.int .u8 0))), 32, 32) := by kernel_rfl
theorem infoId2 : (Tryd.prog.info? 36).map (·.size) = some 32 := by kernel_rfl
/-- thirty-two noughts -/
abbrev Z32 : Array Value := #[.int .u8 0, .int .u8 0, .int .u8 0, .int .u8 0, .int .u8 0, .int .u8 0, .int .u8 0, .int .u8 0, .int .u8 0, .int .u8 0, .int .u8 0, .int .u8 0, .int .u8 0, .int .u8 0, .int .u8 0, .int .u8 0, .int .u8 0, .int .u8 0, .int .u8 0, .int .u8 0, .int .u8 0, .int .u8 0, .int .u8 0, .int .u8 0, .int .u8 0, .int .u8 0, .int .u8 0, .int .u8 0, .int .u8 0, .int .u8 0, .int .u8 0, .int .u8 0]
theorem fold_set : ∀ (X : List Value) (k : Nat) (Z : Array Value), Z.size = k + X.length → (X.zipIdx k).foldl (fun cs x => cs.setIfInBounds x.2 x.1) Z = (Z.toList.take k ++ X).toArray
  | [], k, Z, h => by
    have : Z.toList.take k = Z.toList := List.take_of_length_le (by rw [Array.length_toList]; simpa using Nat.le_of_eq h)
    simp [this]
  | x :: X, k, Z, h => by
    rw [List.zipIdx_cons, List.foldl_cons, fold_set X (k + 1) _ (by simp [h]; omega)]
    have hk : k < Z.toList.length := by rw [Array.length_toList, h]; simp
    congr 1
    rw [Array.toList_setIfInBounds, List.take_add_one, List.getElem?_set_self hk, List.take_set_of_le (Nat.le_refl k)]
    simp
theorem flat_get : ∀ (D : List (List UInt8)) (_ : ∀ x ∈ D, x.length = 32) (i j : Nat) (hi : i < D.length) (_ : j < 32), (D.flatMap Lib.byteCells)[i * 32 + j]? = (Lib.byteCells D[i])[j]?
  | [], _, i, j, hi, _ => absurd hi (by simp)
  | x :: D, hx, 0, j, hi, hj => by
    have : (Lib.byteCells x).length = 32 := by rw [Lib.byteCells_length]; exact hx x (by simp)
    rw [List.flatMap_cons, List.getElem?_append_left (by omega)]
    simp
  | x :: D, hx, i + 1, j, hi, hj => by
    have : (Lib.byteCells x).length = 32 := by rw [Lib.byteCells_length]; exact hx x (by simp)
    rw [List.flatMap_cons, List.getElem?_append_right (by omega), this, show (i + 1) * 32 + j - 32 = i * 32 + j by omega]
    exact flat_get D (fun y hy => hx y (by simp [hy])) i j (by simpa using hi) hj
theorem ids_of_own {w : World} {B : Nat} {v : Value} {D : List (List UInt8)} (h : w.ownsRow B 36 32 v D.length (D.flatMap Lib.byteCells)) (hx : ∀ x ∈ D, x.length = 32) :
    ∃ A c, v = .slice A D.length c ∧ IdsAt w A D := by
  rcases Nat.eq_zero_or_pos D.length with h0 | h0
  · rcases h.2 with ⟨rfl, _⟩ | ⟨g, cap, cur, rfl, _⟩
    · exact ⟨none, 0, by rw [h0], fun i hi => absurd hi (by omega)⟩
    · exact ⟨_, cap, rfl, fun i hi => absurd hi (by omega)⟩
  · rcases h.2 with ⟨_, h1⟩ | ⟨g, cap, cur, rfl, hb, hg, _⟩
    · omega
    · have hlt : g < w.heap.size := (Array.getElem?_eq_some_iff.1 hg).1
      refine ⟨_, cap, rfl, fun i hi => ⟨hx _ (List.getElem_mem hi), g, 0, rfl, hlt, ?_⟩⟩
      intro j u hu
      have hj : j < 32 := by
        have e := (List.getElem?_eq_some_iff.1 hu).1
        rw [Lib.byteCells_length, hx _ (List.getElem_mem hi)] at e
        exact e
      have := h.cells (g := g) rfl (i * 32 + j) u (by rw [flat_get D hx i j hi hj]; exact hu)
      rw [Addr.add_mid, ← Nat.add_assoc] at this
      exact this
theorem ret_tb {v : Value} {a b : Bool} (h : a = b) : Ending.returned (.tuple #[v, .bool a]) = .returned (.tuple #[v, .bool b]) := by rw [h]
def NamesRel (w : World) (K : List UInt8) (k v : Value) (wr : World) : Prop :=
  ∃ (n : Nat) (t : ByteArray) (D : List (List UInt8)), k = .string t ∧ t.size = n * 32 ∧ n + D.length ≤ 5 ∧ n + D.length = K.length / 32 ∧ (∀ x ∈ D, x.length = 32) ∧ D ++ cut32 n (bl t) = cut32 (n + D.length) K ∧ wr.ownsRow w.heap.size 36 32 v D.length (D.flatMap Lib.byteCells) ∧ Below w.heap.size w wr
end Go.Proofs.YtdpkodhfelnedaaDoor.Cod
