/- Tables of 64 powers: one's power, all together. Contracts by what each call means. -/
import Derived.Test.YtgkiehefneamcaaRow
import Derived.Test.YtgkiehefneamcaaProg
import Derived.WalkKit
import Derived.KernelRfl
import Derived.Lib.Hide
import Derived.Laws.AppendOwn
import Derived.Laws.OwnMore
namespace Go.Proofs.Ytgkiehefneamcaa.Cod
open Go.RowKit
/-- the cells of numbers -/
def nc (T : List Int) : Array Value := (T.map (Value.int .i64)).toArray
theorem nc_size (T : List Int) : (nc T).size = T.length := by simp [nc]
theorem nc_get (T : List Int) (k : Nat) (h : k < T.length) : (nc T)[k]? = some (.int .i64 T[k]) := by simp [nc, h]
theorem nc_getD (T : List Int) (k : Nat) (h : k < T.length) : (nc T)[k]? = some (.int .i64 (T.getD k 0)) := by rw [nc_get T k h]; simp [List.getD, h]
theorem nc_one (T : List Int) : (nc T).all (·.oneCell') = true := by simp [nc, Value.oneCell']
theorem nc_set (T : List Int) (k : Nat) (x : Int) : (nc T).setIfInBounds k (.int .i64 x) = nc (T.set k x) := by simp [nc, List.map_set]
/-- powers that may be -/
def Pows (T : List Int) : Prop := T.length = 64 ∧ ∀ x ∈ T, 0 ≤ x ∧ x ≤ 1099511627776
def isum (T : List Int) : Int := T.foldr (· + ·) 0
theorem isum_nil : isum [] = 0 := rfl
theorem isum_cons (x : Int) (T : List Int) : isum (x :: T) = x + isum T := rfl
theorem isum_snoc (T : List Int) (x : Int) : isum (T ++ [x]) = isum T + x := by
  induction T with
  | nil => simp [isum]
  | cons y T ih => rw [List.cons_append, isum_cons, ih, isum_cons]; omega
theorem isum_range (T : List Int) (h : ∀ x ∈ T, 0 ≤ x ∧ x ≤ 1099511627776) : 0 ≤ isum T ∧ isum T ≤ T.length * 1099511627776 := by
  induction T with
  | nil => simp [isum]
  | cons y T ih =>
    have h1 := h y (by simp)
    have h2 := ih fun x hx => h x (by simp [hx])
    rw [isum_cons, List.length_cons]
    omega
def pw (T : List Int) (m : Int) : Int := if 0 ≤ m ∧ m < 64 then T.getD m.toNat 0 else 0
theorem ret_i64 {a b : Int} (h : a = b) : Ending.returned (.int .i64 a) = .returned (.int .i64 b) := by rw [h]
set_option maxHeartbeats 800000 in
set_option maxRecDepth 100000 in
theorem C_power (T : List Int) (hT : T.length = 64) (m : Int) (w : World) :
    Calls Try.prog 25 #[.agg (nc T), .int .i64 m] w fun e w' => e = .returned (.int .i64 (pw T m)) ∧ Below w.heap.size w w' := by
  have hs := nc_size T
  rw [hT] at hs
  by_cases hm : 0 ≤ m ∧ m < 64
  · obtain ⟨k, rfl⟩ : ∃ k : Nat, m = k := ⟨m.toNat, by omega⟩
    have hk : k < 64 := by omega
    have hg := nc_get T k (by omega)
    have hp : pw T k = T[k] := by unfold pw; rw [if_pos hm]; simp [List.getD, hT, hk]
    have hc : (w.alloc (.cells (nc T) 45)).cell? ⟨w.heap.size, k, none⟩ = some (.int .i64 (pw T k)) := by rw [cell_of_row _ _ k (nc T) _ _ (heap_alloc_new w _), hg, hp]
    have HP := Lib.hid hp
    have h1 : ¬ ((k : Int) < 0) := by omega
    have h2 : ¬ ((k : Int) ≥ 64) := by omega
    clear hp hg
    generalize nc T = C at hs hc
    go_enter Try.func25, Try.ntmps25
    go_wp2
    go_ret
    exact ⟨rfl, (Below.refl _ _).alloc (Nat.le_refl _) _⟩
  · have hp : pw T m = 0 := by unfold pw; rw [if_neg hm]
    rw [hp]
    generalize nc T = C at hs
    have hmm : m < 0 ∨ (¬ m < 0 ∧ m ≥ 64) := by omega
    rcases hmm with h1 | ⟨h1, h2⟩
    · go_enter Try.func25, Try.ntmps25
      go_wp2
      go_ret
      exact ⟨rfl, (Below.refl _ _).alloc (Nat.le_refl _) _⟩
    · go_enter Try.func25, Try.ntmps25
      go_wp2
      go_ret
      exact ⟨rfl, (Below.refl _ _).alloc (Nat.le_refl _) _⟩
def TotRel (w : World) (T : List Int) (s i : Value) (wr : World) : Prop := ∃ k : Nat, k ≤ 64 ∧ i = .int .i64 k ∧ s = .int .i64 (isum (T.take k)) ∧ Below w.heap.size w wr
theorem isum_take {T : List Int} (hT : Pows T) {k : Nat} (h : k < 64) : isum (T.take (k + 1)) = isum (T.take k) + T.getD k 0 ∧ 0 ≤ isum (T.take k) ∧ isum (T.take k) ≤ k * 1099511627776 ∧ 0 ≤ T.getD k 0 ∧ T.getD k 0 ≤ 1099511627776 := by
  have hk : k < T.length := by have := hT.1; omega
  have h1 := isum_range (T.take k) fun x hx => hT.2 x (List.mem_of_mem_take hx)
  have h2 := hT.2 T[k] (List.getElem_mem hk)
  have h3 : (T.take k).length = k := by rw [List.length_take]; omega
  have hg : T.getD k 0 = T[k] := by simp [List.getD, hk]
  rw [h3] at h1
  rw [hg]
  refine ⟨?_, h1.1, h1.2, h2.1, h2.2⟩
  rw [List.take_add_one, List.getElem?_eq_getElem hk]
  exact isum_snoc _ _
set_option maxHeartbeats 800000 in
set_option maxRecDepth 100000 in
theorem C_total (T : List Int) (hT : Pows T) (w : World) :
    Calls Try.prog 37 #[.agg (nc T)] w fun e w' => e = .returned (.int .i64 (isum T)) ∧ Below w.heap.size w w' := by
  have hs := nc_size T
  rw [hT.1] at hs
  have hget : ∀ (k : Nat) (h : k < 64) (v : World), (Instr.index 43 (.agg (nc T)) (.int .i64 k)).run Try.prog v = .ok (.int .i64 (T.getD k 0)) v := fun k h v =>
    run_index_arr 43 3 64 (nc T) k _ (by kernel_rfl) (by kernel_rfl) (.inr (.inr (by kernel_rfl))) h (nc_getD T k (by have := hT.1; omega))
  have hinfo : (Try.prog.info? 43).map (·.size) = some (nc T).size := by rw [hs]; kernel_rfl
  have hfull : T.take 64 = T := List.take_of_length_le (by have := hT.1; omega)
  have HT := Lib.hid hT
  have HF := Lib.hid hfull
  clear hT hfull
  generalize nc T = C at hs hinfo hget
  have hq : (w.alloc (.cells C 45)).heap[w.heap.size]? = some (.cells C 45 (0, 0)) := heap_alloc_new _ _
  go_enter Try.func37, Try.ntmps37
  go_wp2_with (refine wpList_load_row (by rfl) 43 (.tmp 6) (by rfl) w.heap.size (by rfl) 45 C (0, 0) _ hq Try.underlying43 rfl hinfo ?_)
  go_loopw [3, 8] (fun s i wr => TotRel w T s i wr) (fun _ i _ => 64 - (intOf i).toNat)
  case atStart => exact ⟨0, by omega, rfl, rfl, (Below.refl _ _).alloc (Nat.le_refl _) _⟩
  case round =>
    obtain ⟨k, hk, rfl, rfl, hb⟩ := hrel
    by_cases hlt : k < 64
    · obtain ⟨e, h1, h2, h3, h4⟩ := isum_take HT.out hlt
      have hg := hget k hlt
      have hlti : (k : Int) < 64 := by omega
      have HE := Lib.hid e
      clear e hget
      obtain ⟨x, hx⟩ : ∃ x, x = T.getD k 0 := ⟨_, rfl⟩
      rw [← hx] at hg h3 h4
      have hw : wrap64 (isum (T.take k) + x) = isum (T.take k) + x := by unfold wrap64; omega
      have HX := Lib.hid hx
      clear hx
      go_wp2
      go_roundw
      case rel => exact ⟨k + 1, by omega, by go_num, by rw [HE.out, ← HX.out], hb⟩
      case measure => simp [intOf]; omega
    · obtain rfl : k = 64 := by omega
      rw [HF.out]
      go_wp2
      go_ret
      exact ⟨rfl, hb⟩
end Go.Proofs.Ytgkiehefneamcaa.Cod
