/- Contracts of nat's functions by what they mean: a value that reads as a number. No program part besides. -/
import Derived.Test.YtclmdidgioggdaaNatP
import Derived.Test.YtclmdidgioggdaaNatS
import Derived.Test.YtclmdidgioggdaaNatT
import Derived.Deep.RegionHeld3
import Derived.Test.YtclmdidgioggdaaQx16
import Derived.Test.YtclmdidgioggdaaQx2
import Derived.Test.YtclmdidgioggdaaQx20
import Derived.Test.YtclmdidgioggdaaQx27
import Derived.Test.YtclmdidgioggdaaQx3
import Derived.Test.YtclmdidgioggdaaQx38
import Derived.Test.YtclmdidgioggdaaQx5
import Derived.Test.YtclmdidgioggdaaQx9
namespace Go.Proofs.Ytclmdidgioggdaa.Num
open Go.RowKit Go.Proofs.YtclmdidgioggdaaW.PrintWords Go.Proofs.Ytclmdidgioggdaa.Q
/-- v is a number's row: a -/
def IsN (w : World) (v : Value) (a : Nat) : Prop := Kd.V (Kd.int .u32) 27 w 0 (fun _ => True) v (N a)
theorem IsN.of {w : World} {v : Value} {a b : Nat} {ok : Nat → Prop} (h : Kd.V (Kd.int .u32) 27 w b ok v (N a)) : IsN w v a := Kd.V_lower (Kd.V_mono h (fun _ _ => trivial)) (Nat.zero_le _)
theorem IsN.below {w w1 : World} {v : Value} {a : Nat} (h : IsN w v a) (hb : Below w.heap.size w w1) : IsN w1 v a := Kd.V_below h hb
theorem IsN.reads {w : World} {v : Value} {a : Nat} (h : IsN w v a) : ∃ A c, v = .slice A (N a).length c ∧ (N a).length ≤ c ∧ Kd.C (Kd.int .u32) w A (N a).length (N a) := by
  obtain ⟨A, c, hv, hl, hf⟩ := h
  subst hv
  exact ⟨A, c, rfl, hl, (Kd.V_reads' (d := Kd.int .u32) (e := 27) (base := 0) (ok := fun _ => True) ⟨A, c, rfl, hl, hf⟩).2.2⟩
theorem IsN.nil (w : World) : IsN w (.slice none 0 0) 0 := by
  unfold IsN
  rw [show N 0 = [] from Ds_zero _]
  exact Kd.V_nil _ _ _ _ _
theorem Ev.got {α : Type} {g : Nat → Option α} {r : α} (h : Ev g r) : ∃ k, g k = some r := by
  obtain ⟨k, hk⟩ := h
  exact ⟨k, hk k (Nat.le_refl _)⟩
theorem C_add {w : World} {u v : Value} {a b : Nat} (ha : IsN w u a) (hb : IsN w v b) (la : (N a).length ≤ 1099511627776) (lb : (N b).length ≤ 1099511627776) :
    Calls Try.prog 23 #[.agg #[u], .agg #[v]] w fun e w' => ∃ x, e = .returned (.agg #[x]) ∧ IsN w' x (a + b) ∧ Below w.heap.size w w' := by
  obtain ⟨A, c, rfl, h1, h2⟩ := ha.reads
  obtain ⟨A', c', rfl, h1', h2'⟩ := hb.reads
  obtain ⟨k, hk⟩ := Ev.got (E_add a b la lb)
  refine (nat_Nat_Add.calls k A c (N a) A' c' (N b) _ w h2 h1 h2' h1' hk).mono fun e w' ⟨x, he, hx, hw⟩ => ⟨x, he, IsN.of hx, hw⟩
theorem C_mul {w : World} {u v : Value} {a b : Nat} (ha : IsN w u a) (hb : IsN w v b) (la : (N a).length ≤ 1099511627776) (lb : (N b).length ≤ 1099511627776) :
    Calls Try.prog 21 #[.agg #[u], .agg #[v]] w fun e w' => ∃ x, e = .returned (.agg #[x]) ∧ IsN w' x (a * b) ∧ Below w.heap.size w w' := by
  obtain ⟨A, c, rfl, h1, h2⟩ := ha.reads
  obtain ⟨A', c', rfl, h1', h2'⟩ := hb.reads
  obtain ⟨k, hk⟩ := Ev.got (E_mul a b la lb)
  refine (nat_Nat_Mul.calls k A c (N a) A' c' (N b) _ w h2 h1 h2' h1' hk).mono fun e w' ⟨x, he, hx, hw⟩ => ⟨x, he, IsN.of hx, hw⟩
theorem C_sub {w : World} {u v : Value} {a b : Nat} (ha : IsN w u a) (hb : IsN w v b) (la : (N a).length ≤ 1099511627776) (lb : (N b).length ≤ 1099511627776) (hle : b ≤ a) :
    Calls Try.prog 42 #[.agg #[u], .agg #[v]] w fun e w' => ∃ x, e = .returned (.tuple #[.agg #[x], .bool true]) ∧ IsN w' x (a - b) ∧ Below w.heap.size w w' := by
  obtain ⟨A, c, rfl, h1, h2⟩ := ha.reads
  obtain ⟨A', c', rfl, h1', h2'⟩ := hb.reads
  have hE := E_sub a b la lb
  rw [if_pos hle] at hE
  obtain ⟨k, hk⟩ := Ev.got hE
  refine (nat_Nat_Sub.calls k A c (N a) A' c' (N b) _ _ w h2 h1 h2' h1' hk).mono fun e w' ⟨x, he, hx, hw⟩ => ⟨x, he, IsN.of hx, hw⟩
theorem C_of (w : World) (a : Nat) (ha : a < 18446744073709551616) :
    Calls Try.prog 30 #[.int .u64 a] w fun e w' => ∃ x, e = .returned (.agg #[x]) ∧ IsN w' x a ∧ Below w.heap.size w w' := by
  obtain ⟨k, hk⟩ := Ev.got (E_of a ha)
  refine (nat_Of.calls k a _ w hk).mono fun e w' ⟨x, he, hx, hw⟩ => ⟨x, he, IsN.of hx, hw⟩
theorem C_zero {w : World} {u : Value} {a : Nat} (ha : IsN w u a) :
    Calls Try.prog 24 #[.agg #[u]] w fun e w' => e = .returned (.bool (decide (a = 0))) ∧ Below w.heap.size w w' := by
  obtain ⟨A, c, rfl, h1, h2⟩ := ha.reads
  exact nat_Nat_Zero.calls A c (N a) _ w h2 h1 (E_zero a)
theorem C_lawof (s : ByteArray) (hs : s.size ≤ 4611686018427387904) (n : Nat) (hn : n ≤ 400) :
    ∃ a, a < 10 ^ n ∧ ∀ w : World, Calls Try.prog 20 #[.string s, .int .i64 n] w fun e w' => ∃ x y, e = .returned (.tuple #[.agg #[x], y]) ∧ IsN w' x a ∧ Below w.heap.size w w' := by
  obtain ⟨a, ha, hE⟩ := E_lawof s hs n hn
  obtain ⟨k, hk⟩ := Ev.got hE
  exact ⟨a, ha, fun w => (coxswainlaw03_Of.calls k s n _ _ w hk).mono fun e w' ⟨x, y, he, hx, hy, hw⟩ => ⟨x, y, he, IsN.of hx, hw⟩⟩
theorem C_awake3 (w : World) : Calls Try.prog 19 #[] w fun e w' => e = .returned (.bool true) ∧ Below w.heap.size w w' := by
  obtain ⟨k, hk⟩ := Ev.got E_awake3
  exact coxswainlaw03_awake.calls k true w hk
theorem C_cmp {w : World} {u v : Value} {a b : Nat} (ha : IsN w u a) (hb : IsN w v b) (la : (N a).length ≤ 1099511627776) (lb : (N b).length ≤ 1099511627776) :
    Calls Try.prog 33 #[.agg #[u], .agg #[v]] w fun e w' => e = .returned (.int .i64 (if a < b then -1 else if b < a then 1 else 0)) ∧ Below w.heap.size w w' := by
  obtain ⟨A, c, rfl, h1, h2⟩ := ha.reads
  obtain ⟨A', c', rfl, h1', h2'⟩ := hb.reads
  obtain ⟨k, hk⟩ := Ev.got (E_cmp a b la lb)
  exact nat_Nat_Cmp.calls k A c (N a) A' c' (N b) _ w h2 h1 h2' h1' hk
theorem C_text {w : World} {u : Value} {a : Nat} (ha : IsN w u a) (la : (N a).length ≤ 1099511627776) (ta : (T a).length ≤ 1000000) :
    Calls Try.prog 26 #[.agg #[u]] w fun e w' => e = .returned (.string (dec a)) ∧ Below w.heap.size w w' := by
  have ha2 := ha
  obtain ⟨A, c, rfl, h1, h2⟩ := ha.reads
  obtain ⟨k, hk⟩ := Ev.got (E_text a la ta)
  exact nat_Nat_Text.calls k (fun _ => True) A c (N a) _ w ha2 hk
end Go.Proofs.Ytclmdidgioggdaa.Num
