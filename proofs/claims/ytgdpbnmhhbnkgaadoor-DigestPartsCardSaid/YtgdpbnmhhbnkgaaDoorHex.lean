/- digest.Hex. Contract by what it means. -/
import Derived.Test.YtgdpbnmhhbnkgaaDoorId
import Derived.Test.YtgdpbnmhhbnkgaaDoorRow
import Derived.Test.YtgdpbnmhhbnkgaaDoorInOps
namespace Go.Proofs.YtgdpbnmhhbnkgaaDoor.Cod
open Go.RowKit
def nib (n : Nat) : UInt8 := if n < 10 then UInt8.ofNat (48 + n) else UInt8.ofNat (87 + n)
def hexL (l : List UInt8) : List UInt8 := l.flatMap fun b => [nib (b.toNat / 16), nib (b.toNat % 16)]
theorem hexL_len (l : List UInt8) : (hexL l).length = 2 * l.length := by
  induction l with
  | nil => rfl
  | cons a l ih => unfold hexL at ih ⊢; rw [List.flatMap_cons, List.length_append, ih]; simp; omega
theorem hexL_take (l : List UInt8) (k : Nat) (x : UInt8) (h : l[k]? = some x) : hexL (l.take (k + 1)) = hexL (l.take k) ++ [nib (x.toNat / 16)] ++ [nib (x.toNat % 16)] := by
  unfold hexL; rw [List.take_add_one, h, List.flatMap_append]; simp
theorem dig_at (n : Nat) (h : n < (ByteArray.mk #[48, 49, 50, 51, 52, 53, 54, 55, 56, 57, 97, 98, 99, 100, 101, 102]).size) : (((ByteArray.mk #[48, 49, 50, 51, 52, 53, 54, 55, 56, 57, 97, 98, 99, 100, 101, 102])[n]'h).toNat : Int) = ((nib n).toNat : Int) := by
  have h2 : n < 16 := h
  rcases (by omega : n = 0 ∨ n = 1 ∨ n = 2 ∨ n = 3 ∨ n = 4 ∨ n = 5 ∨ n = 6 ∨ n = 7 ∨ n = 8 ∨ n = 9 ∨ n = 10 ∨ n = 11 ∨ n = 12 ∨ n = 13 ∨ n = 14 ∨ n = 15) with rfl | rfl | rfl | rfl | rfl | rfl | rfl | rfl | rfl | rfl | rfl | rfl | rfl | rfl | rfl | rfl <;> rfl
theorem and15 (n : Nat) (h : n < 256) : bits .and .u8 (n : Int) 15 = ((n % 16 : Nat) : Int) := by
  have e : n &&& 15 = n % 16 := Nat.and_two_pow_sub_one_eq_mod n 4
  show IntKind.u8.wrap ((BitVec.ofInt 8 (n : Int) &&& BitVec.ofInt 8 ((15 : Nat) : Int)).toNat : Int) = _
  rw [BitVec.toNat_and, BitVec.ofInt_natCast, BitVec.ofInt_natCast, BitVec.toNat_ofNat, BitVec.toNat_ofNat, Nat.mod_eq_of_lt h, Nat.mod_eq_of_lt (by decide), e]
  show ((n % 16 : Nat) : Int) % 256 = _
  omega
def HexRel (w : World) (l : List UInt8) (i : Value) (wr : World) : Prop :=
  ∃ k : Nat, k ≤ 32 ∧ i = .int .i64 k ∧ Bd 27 (w.heap.size + 1) (w.heap.size + 1) (hexL (l.take k)) wr ∧ Below w.heap.size w wr
theorem BdB.new (w : World) : Bd 27 w.heap.size w.heap.size [] (w.alloc (.cells #[.pointer none, .slice none 0 0] 27)) :=
  Lib.IsBuilderF.of (Lib.fresh_isBuilder _ _ w)
set_option maxHeartbeats 1000000 in
set_option maxRecDepth 100000 in
theorem C_hex (l : List UInt8) (hl : l.length = 32) (w : World) : Calls Tryd.prog 33 #[idv l] w fun e w' => e = .returned (.string (S (hexL l))) ∧ Below w.heap.size w w' := by
  have zl : (Lib.byteCells l).toArray.size = 32 := by simp [Lib.byteCells, hl]
  have cl : ∀ (j : Nat) (x : UInt8), l[j]? = some x → (Lib.byteCells l).toArray[j]? = some (Value.int .u8 x.toNat) := fun j x h => byteCells_get h
  have hi : (Tryd.prog.info? 31).map (·.size) = some (Lib.byteCells l).toArray.size := by rw [zl]; kernel_rfl
  unfold idv
  generalize (Lib.byteCells l).toArray = L at zl cl hi
  have HCL := Lib.hid cl
  have hnew := BdB.new (w.alloc (.cells L 31))
  have HN := Lib.hid hnew
  clear cl hnew
  go_enter Tryd.func33, Tryd.ntmps33
  go_wp2_with (refine wpList_load_row (by rfl) 31 (.tmp 1) (by rfl) w.heap.size (by rfl) 31 L (0, 0) _ (by exact heap_alloc2_old _ _ _) Tryd.underlying31 rfl hi ?_)
  go_loopw [7] (fun i wr => HexRel w l i wr) (fun i _ => 32 - (intOf i).toNat)
  case atStart => exact ⟨0, by omega, rfl, by simpa [hexL] using HN.out, ((Below.refl _ _).alloc (Nat.le_refl _) _).alloc (by simp) _⟩
  case round =>
    obtain ⟨k, hk, rfl, hB, hbw⟩ := hrel
    have hsz : (hexL (l.take k)).length ≤ 64 := by rw [hexL_len, List.length_take]; omega
    by_cases hlt : k < 32
    · obtain ⟨x, hx⟩ : ∃ x, l[k]? = some x := ⟨_, List.getElem?_eq_getElem (by omega)⟩
      have ht := hexL_take l k x hx
      have hix := fun W => run_index_arr (P := Tryd.prog) (w := W) 31 5 32 L k (.int .u8 x.toNat) (by kernel_rfl) (by kernel_rfl) (.inl (by kernel_rfl)) hlt (HCL.out _ _ hx)
      have n1 : x.toNat / 16 < 16 := by have := x.toNat_lt; omega
      have n2 : x.toNat % 16 < 16 := by omega
      have x0 : (0 : Int) ≤ (x.toNat : Int) := by omega
      have x1 : (x.toNat : Int) < 256 := by have := x.toNat_lt; omega
      have hd1 := dig_at (x.toNat / 16) n1
      have hd2 := dig_at (x.toNat % 16) n2
      have ha := and15 x.toNat x.toNat_lt
      have b0 : (0 : Int) ≤ (k : Int) := by omega
      have b1 : (k : Int) < 32 := by omega
      have HT := Lib.hid ht
      have HB := Lib.hid hB
      have hs1 : (hexL (l.take k)).length + 1 ≤ 140737488355328 := by omega
      have hs2 : (hexL (l.take k) ++ [nib (x.toNat / 16)]).length + 1 ≤ 140737488355328 := by rw [List.length_append]; simp; omega
      clear ht hB hx
      go_wp2_with (first
        | (go_at_call 80; ((with_reducible refine (C_byte bt_self _ (nib (x.toNat / 16)) rfl HB.out hs1).mono ?_); rintro e w1 ⟨rfl, f1, g1⟩))
        | (go_at_call 80; ((with_reducible refine (C_byte bt_self _ (nib (x.toNat % 16)) rfl f1 hs2).mono ?_); rintro e w2 ⟨rfl, f2, g2⟩)))
      refine ⟨⟨k + 1, by omega, by go_num, by rw [HT.out]; exact f2, hbw.trans ((g1.1.trans g2.1).mono (by omega))⟩, by simp [intOf]; omega⟩
    · obtain rfl : k = 32 := by omega
      rw [show ((32 : Nat) : Int) = 32 from rfl]
      have hne : hexL (l.take 32) ≠ [] := by intro e; have := congrArg List.length e; rw [hexL_len, List.length_take] at this; simp at this; omega
      go_wp2_with (go_at_call 74; ((with_reducible refine (C_string hB hne).mono ?_); rintro e w1 ⟨rfl, h1, h2⟩))
      go_ret
      exact ⟨ret_str (by rw [List.take_of_length_le (by omega)]; rfl), by have := h2.1; exact hbw.trans (this.mono (by omega))⟩
end Go.Proofs.YtgdpbnmhhbnkgaaDoor.Cod
