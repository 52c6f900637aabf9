/- header.Names: a key's names. Contract by what it means. -/
import Derived.Test.YtgdpbnmhhbnkgaaDoorId
import Derived.Laws.CopyRow
import Derived.Deep.WholeRow
import Derived.OwnWalk
namespace Go.Proofs.YtgdpbnmhhbnkgaaDoor.Cod
open Go.RowKit
theorem run_copy_id (W : World) (ty : TypeId) (b : Nat) (cur : Array Value) (hb : W.heap[b]? = some (.cells cur 31 (0, 0))) (hcs : cur.size = 32) (t : ByteArray) (ht : 32 ≤ t.size) :
    (Builtin.copy_ #[25, 9] ty #[.slice (some ⟨b, 0, none⟩) 32 32, .string t]).run Tryd.prog W = .ok (.int .i64 32) (W.setRow b (Lib.byteCells ((bl t).take 32)).toArray) := by
  have hn : Nat.min t.size 32 = 32 := Nat.min_eq_right ht
  have hl : ((bl t).take 32).length = 32 := by rw [List.length_take, bl_len]; omega
  have hlb : (Lib.byteCells ((bl t).take 32)).length = 32 := by rw [Lib.byteCells_length]; exact hl
  have hst := run_storeCells_at Tryd.prog b 0 31 (Lib.byteCells ((bl t).take 32)) 0 cur W hb (by simp only [Nat.zero_add, hlb, hcs]; omega) (all_one _)
  have e1 : cur.toList.drop (0 + 0 + (Lib.byteCells ((bl t).take 32)).length) = [] := List.drop_of_length_le (by simp only [Nat.zero_add, hlb, Array.length_toList, hcs]; omega)
  rw [e1] at hst
  simp only [Nat.zero_add, List.take_zero, List.nil_append, List.append_nil] at hst
  have hcells : (List.map (fun b : UInt8 => Value.int .u8 (b.toNat : Int)) t.data.toList).take 32 = Lib.byteCells ((bl t).take 32) := by
    simp [Lib.byteCells, bl, List.map_take]
  obtain ⟨i, hq, _, _, _⟩ := info_parts infoByte
  simp [Builtin.copy_, run_underlying Tryd.underlying25, Builtin.lenOf, Builtin.firstCells, sizeOf, typeInfo, hq, hn, goInt]
  rw [hcells, hst]
  rfl
/-- is it a key? -/
def cut32 (n : Nat) (l : List UInt8) : List (List UInt8) := match n with | 0 => [] | n + 1 => l.take 32 :: cut32 n (l.drop 32)
def isKey (l : List UInt8) : Bool := decide (l.length % 32 = 0 ∧ 1 ≤ l.length / 32 ∧ l.length / 32 ≤ 5) && rises (cut32 (l.length / 32) l)
set_option maxHeartbeats 800000 in
set_option maxRecDepth 100000 in
theorem C_among (x a b : Int) (w : World) : Calls Tryd.prog 85 #[.int .i64 x, .int .i64 a, .int .i64 b] w fun e w' => e = .returned (.bool (decide (a ≤ x ∧ x ≤ b))) ∧ w = w' := by
  by_cases h : a ≤ x
  · by_cases h2 : x ≤ b
    · rw [decide_eq_true ⟨h, h2⟩]
      go_enter Tryd.func85, Tryd.ntmps85
      go_wp2
      go_ret
      exact ⟨rfl, rfl⟩
    · rw [decide_eq_false (fun k => h2 k.2)]
      have h2' : ¬ x ≤ b := h2
      go_enter Tryd.func85, Tryd.ntmps85
      go_wp2
      go_ret
      exact ⟨rfl, rfl⟩
  · rw [decide_eq_false (fun k => h k.1)]
    go_enter Tryd.func85, Tryd.ntmps85
    go_wp2
    go_ret
    exact ⟨rfl, rfl⟩
theorem cut32_succ (n : Nat) (l : List UInt8) : cut32 (n + 1) l = l.take 32 :: cut32 n (l.drop 32) := rfl
theorem infoId : (Tryd.prog.info? 31).map (fun i => (i.zero, i.size, i.bytes)) = some (some (.agg (Array.replicate 32 (.int .u8 0))), 32, 32) := by kernel_rfl
theorem infoId2 : (Tryd.prog.info? 31).map (·.size) = some 32 := by kernel_rfl
/-- thirty-two noughts -/
abbrev Z32 : Array Value := #[.int .u8 0, .int .u8 0, .int .u8 0, .int .u8 0, .int .u8 0, .int .u8 0, .int .u8 0, .int .u8 0, .int .u8 0, .int .u8 0, .int .u8 0, .int .u8 0, .int .u8 0, .int .u8 0, .int .u8 0, .int .u8 0, .int .u8 0, .int .u8 0, .int .u8 0, .int .u8 0, .int .u8 0, .int .u8 0, .int .u8 0, .int .u8 0, .int .u8 0, .int .u8 0, .int .u8 0, .int .u8 0, .int .u8 0, .int .u8 0, .int .u8 0, .int .u8 0]
theorem fold_set : ∀ (X : List Value) (k : Nat) (Z : Array Value), Z.size = k + X.length → (X.zipIdx k).foldl (fun cs x => cs.setIfInBounds x.2 x.1) Z = (Z.toList.take k ++ X).toArray
  | [], k, Z, h => by
    have : Z.toList.take k = Z.toList := List.take_of_length_le (by rw [Array.length_toList]; simpa using Nat.le_of_eq h)
    simp [this]
  | x :: X, k, Z, h => by
    rw [List.zipIdx_cons, List.foldl_cons, fold_set X (k + 1) _ (by simp [h]; omega)]
    have hk : k < Z.toList.length := by rw [Array.length_toList, h]; simp
    congr 1
    rw [Array.toList_setIfInBounds, List.take_add_one, List.getElem?_set_self hk, List.take_set_of_le (Nat.le_refl k)]
    simp
theorem flat_get : ∀ (D : List (List UInt8)) (_ : ∀ x ∈ D, x.length = 32) (i j : Nat) (hi : i < D.length) (_ : j < 32), (D.flatMap Lib.byteCells)[i * 32 + j]? = (Lib.byteCells D[i])[j]?
  | [], _, i, j, hi, _ => absurd hi (by simp)
  | x :: D, hx, 0, j, hi, hj => by
    have : (Lib.byteCells x).length = 32 := by rw [Lib.byteCells_length]; exact hx x (by simp)
    rw [List.flatMap_cons, List.getElem?_append_left (by omega)]
    simp
  | x :: D, hx, i + 1, j, hi, hj => by
    have : (Lib.byteCells x).length = 32 := by rw [Lib.byteCells_length]; exact hx x (by simp)
    rw [List.flatMap_cons, List.getElem?_append_right (by omega), this, show (i + 1) * 32 + j - 32 = i * 32 + j by omega]
    exact flat_get D (fun y hy => hx y (by simp [hy])) i j (by simpa using hi) hj
theorem ids_of_own {w : World} {B : Nat} {v : Value} {D : List (List UInt8)} (h : w.ownsRow B 31 32 v D.length (D.flatMap Lib.byteCells)) (hx : ∀ x ∈ D, x.length = 32) :
    ∃ A c, v = .slice A D.length c ∧ IdsAt w A D := by
  rcases Nat.eq_zero_or_pos D.length with h0 | h0
  · rcases h.2 with ⟨rfl, _⟩ | ⟨g, cap, cur, rfl, _⟩
    · exact ⟨none, 0, by rw [h0], fun i hi => absurd hi (by omega)⟩
    · exact ⟨_, cap, rfl, fun i hi => absurd hi (by omega)⟩
  · rcases h.2 with ⟨_, h1⟩ | ⟨g, cap, cur, rfl, hb, hg, _⟩
    · omega
    · have hlt : g < w.heap.size := (Array.getElem?_eq_some_iff.1 hg).1
      refine ⟨_, cap, rfl, fun i hi => ⟨hx _ (List.getElem_mem hi), g, 0, rfl, hlt, ?_⟩⟩
      intro j u hu
      have hj : j < 32 := by
        have e := (List.getElem?_eq_some_iff.1 hu).1
        rw [Lib.byteCells_length, hx _ (List.getElem_mem hi)] at e
        exact e
      have := h.cells (g := g) rfl (i * 32 + j) u (by rw [flat_get D hx i j hi hj]; exact hu)
      rw [Addr.add_mid, ← Nat.add_assoc] at this
      exact this
theorem ret_tb {v : Value} {a b : Bool} (h : a = b) : Ending.returned (.tuple #[v, .bool a]) = .returned (.tuple #[v, .bool b]) := by rw [h]
def NamesRel (w : World) (K : List UInt8) (k v : Value) (wr : World) : Prop :=
  ∃ (n : Nat) (t : ByteArray) (D : List (List UInt8)), k = .string t ∧ t.size = n * 32 ∧ n + D.length ≤ 5 ∧ n + D.length = K.length / 32 ∧ (∀ x ∈ D, x.length = 32) ∧ D ++ cut32 n (bl t) = cut32 (n + D.length) K ∧ wr.ownsRow w.heap.size 31 32 v D.length (D.flatMap Lib.byteCells) ∧ Below w.heap.size w wr
set_option maxHeartbeats 1600000 in
set_option maxRecDepth 100000 in
theorem C_names (s : ByteArray) (hs : s.size ≤ 140737488351232) (w : World) :
    Calls Tryd.prog 65 #[.string s] w fun e w' => ∃ v, e = .returned (.tuple #[v, .bool (isKey (bl s))]) ∧ Below w.heap.size w w' := by
  have hlen := bl_len s
  by_cases hok : s.size % 32 = 0 ∧ 1 ≤ s.size / 32 ∧ s.size / 32 ≤ 5
  · have hm : (s.size : Int) % 32 = 0 := by omega
    have hdec : decide ((1 : Int) ≤ (s.size : Int) / 32 ∧ (s.size : Int) / 32 ≤ 5) = true := decide_eq_true (by omega)
    have hK : isKey (bl s) = rises (cut32 (s.size / 32) (bl s)) := by unfold isKey; rw [hlen, decide_eq_true hok]; rfl
    go_enter Tryd.func65, Tryd.ntmps65
    go_wp2_with (go_at_call 85; with_reducible refine (C_among _ _ _ _).mono ?_; rintro e w1 ⟨rfl, rfl⟩)
    clear hm hdec
    go_loopw [0, 4] (fun k v wr => NamesRel w (bl s) k v wr) (fun k _ _ => match k with | .string t => t.size | _ => 0)
    case atStart => exact ⟨s.size / 32, s, [], rfl, by omega, by simpa using hok.2.2, by simp [hlen], by simp, by simp, World.ownsRow_nil _ _ _ _, Below.refl _ _⟩
    case round =>
      obtain ⟨n, t, D, rfl, ht, hD, hL, hx, hcat, hown, hb⟩ := hrel
      have HL := Lib.hid hL
      clear hL
      have hts := bl_len t
      rcases n with _ | n
      · have hn := toList_nil (s := t) (by omega)
        have hDK : D = cut32 D.length (bl s) := by simpa [cut32] using hcat
        obtain ⟨A4, c4, rfl, hIds⟩ := ids_of_own hown hx
        have hn5 : D.length = s.size / 32 := by
          have e := congrArg List.length hDK
          have := HL.out
          omega
        have hr : isKey (bl s) = rises D := by rw [hK, ← hn5, ← hDK]
        clear hcat hDK hK
        have hCr := C_rise (c := c4) hIds (by omega)
        obtain ⟨r, er⟩ : ∃ r, rises D = r := ⟨_, rfl⟩
        rw [er] at hCr hr
        have HR := Lib.hid hr
        clear er hr hn5
        cases r with
        | false =>
          go_wp2_with (go_at_call 86; with_reducible refine hCr.mono ?_; rintro e w2 ⟨rfl, f2⟩)
          go_ret2
          exact ⟨_, ret_tb HR.out.symm, hb.trans (f2.mono hb.size)⟩
        | true =>
          go_wp2_with (go_at_call 86; with_reducible refine hCr.mono ?_; rintro e w2 ⟨rfl, f2⟩)
          go_ret2
          exact ⟨_, ret_tb HR.out.symm, hb.trans (f2.mono hb.size)⟩
      · have hn := toList_cons (s := t) (by omega)
        have h32 : 32 ≤ t.size := by omega
        have h32' : (32 : Int) ≤ (t.size : Int) := by omega
        have HC := Lib.hid hcat
        clear hcat hok hK
        have hl32 : ((bl t).take 32).length = 32 := by rw [List.length_take]; omega
        have hcp := run_copy_id (wr.alloc (.cells Z32 31)) 3 wr.heap.size Z32 (heap_alloc_new _ _) rfl t h32
        rw [World.setRow_alloc_new] at hcp
        have hX1 := all_one ((bl t).take 32)
        have hXl : (Lib.byteCells ((bl t).take 32)).length = 32 := by rw [Lib.byteCells_length]; exact hl32
        obtain ⟨X, eX⟩ : ∃ X, X = Lib.byteCells ((bl t).take 32) := ⟨_, rfl⟩
        rw [← eX] at hcp hX1 hXl
        have HX := Lib.hid eX
        clear eX
        have hXs : X.toArray.size = 32 := by simpa using hXl
        have hgX : (wr.alloc (.cells X.toArray 31)).heap[wr.heap.size]? = some (.cells X.toArray 31 (0, 0)) := heap_alloc_new _ _
        have hiX : (Tryd.prog.info? 31).map (·.size) = some X.toArray.size := by rw [hXs]; kernel_rfl
        obtain ⟨i0, hi, hz0, hz1, hz2⟩ := info_parts infoId
        have hfold : List.foldl (fun cs (x : Value × Nat) => cs.setIfInBounds x.2 x.1) Z32 X.zipIdx = X.toArray := by
          have := fold_set X 0 Z32 (by rw [hXl]; rfl)
          simpa using this
        go_wp2_with (first
          | (refine wpList_load_row (by rfl) 31 (.tmp 5) (by rfl) wr.heap.size (by rfl) 31 X.toArray (0, 0) _ hgX Tryd.underlying31 rfl hiX ?_)
          | (at_builtin; refine wpList_append_own _ rfl _ _ 60 rfl w.heap.size 31 i0 (.agg (Array.replicate 32 (.int .u8 0))) 32 32 Tryd.underlying60 hi hz0 hz1 hz2 rfl (by decide) _ _ _ rfl ((hown.alloc _).alloc _) ⟨wr.heap.size + 1, 0, none⟩ 1 1 X rfl ?c1 ?c2 hX1 ?c3 ?c4 ?c5 ?_))
        case c1 => simpa using hXl
        case c2 =>
          intro j u hu
          rw [Addr.add_mid, Nat.zero_add, cell_of_row _ _ j X.toArray _ _ (heap_alloc2_new wr _ _)]
          simpa using hu
        case c3 => unfold maxLen; omega
        case c4 => omega
        case c5 => have := hb.size; simp; omega
        intro v' w1 hown' hgrow _
        go_wp2
        go_roundw
        case rel =>
          have hd : (bl t).drop 32 = bl (t.extract 32 t.size) := (bl_drop _ _).symm
          refine ⟨n, _, D ++ [(bl t).take 32], rfl, by simp; omega, by simp; omega, by have := HL.out; simp; omega, ?_, ?_, ?_, ?_⟩
          · intro x hx2
            rcases List.mem_append.1 hx2 with h | h
            · exact hx x h
            · simp at h; rw [h]; exact hl32
          · have := HC.out
            rw [cut32_succ, hd, ht] at this
            rw [List.append_assoc]
            simp only [List.length_append, List.length_singleton]
            rw [show n + (D.length + 1) = n + 1 + D.length by omega]
            exact this
          · rw [List.flatMap_append, List.length_append]
            simpa [HX.out] using hown'
          · have hs0 := hb.size
            exact ((hb.alloc hs0 _).alloc (by simp; omega) _).grown hgrow (by simp; omega) (fun k hk => (hown.lt k hk).1)
        case measure => simp; omega
  · have hK : isKey (bl s) = false := by unfold isKey; rw [hlen, decide_eq_false hok]; rfl
    have HK := Lib.hid hK
    clear hK
    by_cases hm : s.size % 32 = 0
    · have hmI : (s.size : Int) % 32 = 0 := by omega
      have hdec : decide ((1 : Int) ≤ (s.size : Int) / 32 ∧ (s.size : Int) / 32 ≤ 5) = false := decide_eq_false (by omega)
      have hA := fun v => C_among ((s.size : Int) / 32) 1 5 v
      rw [hdec] at hA
      clear hok hdec hm
      go_enter Tryd.func65, Tryd.ntmps65
      go_wp2_with (go_at_call 85; with_reducible refine (hA _).mono ?_; rintro e w1 ⟨rfl, rfl⟩)
      go_ret2
      exact ⟨_, ret_tb HK.out.symm, Below.refl _ _⟩
    · have hmI : ¬ (s.size : Int) % 32 = 0 := by omega
      have hmB : ((s.size : Int) % 32 != 0) = true := by simpa using hmI
      clear hok hm
      go_enter Tryd.func65, Tryd.ntmps65
      go_wp2
      go_ret2
      exact ⟨_, ret_tb HK.out.symm, Below.refl _ _⟩
end Go.Proofs.YtgdpbnmhhbnkgaaDoor.Cod
