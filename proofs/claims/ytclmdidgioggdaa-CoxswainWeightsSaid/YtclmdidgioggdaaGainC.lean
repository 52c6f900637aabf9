/- Contracts of nat's and gain's functions by what they mean: what CoxswainWeights needs. -/
import Derived.Test.YtclmdidgioggdaaNatK
import Derived.Test.YtclmdidgioggdaaQx28
import Derived.Test.YtclmdidgioggdaaQx4
import Derived.Test.YtclmdidgioggdaaQx5
import Derived.Test.YtclmdidgioggdaaQx7
import Derived.Lib.Hide
import Derived.LoopTactic
namespace Go.Proofs.Ytclmdidgioggdaa.Num
open Go.RowKit Go.Proofs.YtclmdidgioggdaaW.PrintWords Go.Proofs.YtclmdidgioggdaaW.PrintLast Go.Proofs.Ytclmdidgioggdaa.Q
def IsT (w : World) (v : Value) (a : Nat) : Prop := Kd.V (Kd.int .i64) 3 w 0 (fun _ => True) v (T a)
def gK (p : Nat) (w : Int) : Nat := gn p w.toNat
theorem gK_lt (p : Nat) (w : Int) (hp : p < 18446744073709551616) (hw : w ≤ 9223372036854775807) : gK p w < 10 ^ 24 := by
  have hl := lg_le p hp
  have h1 : lg p * w.toNat ≤ 16383 * 10 ^ 19 := Nat.mul_le_mul hl (by omega)
  unfold gK gn
  omega
theorem C_gain (w : World) (p : Nat) (n : Int) (hp : p < 18446744073709551616) (h0 : -9223372036854775808 ≤ n) (h1 : n ≤ 9223372036854775807) :
    Calls Try.prog 25 #[.int .u64 p, .int .i64 n] w fun e w' => ∃ x, e = .returned (.agg #[x]) ∧ IsK w' x (gK p n) 24 ∧ Below w.heap.size w w' := by
  obtain ⟨k, hk⟩ := Ev.got (E_gain p hp n h0 h1)
  exact (gain_Of.calls k p n _ w hk).mono fun e w' ⟨x, he, hx, hw⟩ => ⟨x, he, ⟨IsN.of hx, gK_lt p n hp h1⟩, hw⟩
theorem K_text {w : World} {u : Value} {a k : Nat} (ha : IsK w u a k) (hk : k ≤ 1000) :
    Calls Try.prog 26 #[.agg #[u]] w fun e w' => e = .returned (.string (dec a)) ∧ Below w.heap.size w w' := by
  have h1 := ha.len
  exact C_text ha.1 (by omega) (by omega)
theorem K_cmp {w : World} {u v : Value} {a b k l : Nat} (ha : IsK w u a k) (hb : IsK w v b l) (hk : k ≤ 1000) (hl : l ≤ 1000) :
    Calls Try.prog 33 #[.agg #[u], .agg #[v]] w fun e w' => e = .returned (.int .i64 (if a < b then -1 else if b < a then 1 else 0)) ∧ Below w.heap.size w w' := by
  have h1 := ha.len; have h2 := hb.len
  exact C_cmp ha.1 hb.1 (by omega) (by omega)
theorem K_of (w : World) (a : Nat) (ha : a < 18446744073709551616) :
    Calls Try.prog 30 #[.int .u64 a] w fun e w' => ∃ x, e = .returned (.agg #[x]) ∧ IsK w' x a 20 ∧ Below w.heap.size w w' :=
  (C_of w a ha).mono fun e w' ⟨x, he, hx, hw⟩ => ⟨x, he, ⟨hx, by omega⟩, hw⟩
/-- .. whose row lies from block B on -/
def IsNF (B : Nat) (w : World) (v : Value) (a : Nat) : Prop := Kd.V (Kd.int .u32) 27 w 0 (fun k => B ≤ k) v (N a)
theorem IsNF.isN {B : Nat} {w : World} {v : Value} {a : Nat} (h : IsNF B w v a) : IsN w v a := Kd.V_mono h (fun _ _ => trivial)
theorem IsNF.set {B : Nat} {w : World} {v : Value} {a : Nat} (h : IsNF B w v a) {p : Addr} (hp : p.block < B) (u : Value) : IsNF B (w.setCell p u) v a := Kd.V_far h (fun k hk => by omega) u
theorem IsNF.below {B : Nat} {w w1 : World} {v : Value} {a : Nat} (h : IsNF B w v a) (hb : Below w.heap.size w w1) : IsNF B w1 v a := Kd.V_below h hb
/-- .. whose row lies neither in block B nor in the next one -/
def IsNk (B : Nat) (w : World) (v : Value) (a : Nat) : Prop := Kd.V (Kd.int .u32) 27 w 0 (fun k => k ≠ B ∧ k ≠ B + 1) v (N a)
theorem IsNk.isN {B : Nat} {w : World} {v : Value} {a : Nat} (h : IsNk B w v a) : IsN w v a := Kd.V_mono h (fun _ _ => trivial)
theorem IsNk.set {B : Nat} {w : World} {v : Value} {a : Nat} (h : IsNk B w v a) {p : Addr} (hp : p.block = B ∨ p.block = B + 1) (u : Value) : IsNk B (w.setCell p u) v a := Kd.V_far h (fun k hk => by omega) u
theorem IsNk.below {B : Nat} {w w1 : World} {v : Value} {a : Nat} (h : IsNk B w v a) (hb : Below w.heap.size w w1) : IsNk B w1 v a := Kd.V_below h hb
theorem IsNF.nk {B C : Nat} {w : World} {v : Value} {a : Nat} (h : IsNF C w v a) (hC : B + 1 < C) : IsNk B w v a := Kd.V_mono h (fun k hk => by omega)
theorem IsN.nk {w : World} {v : Value} {a : Nat} (h : IsN w v a) : IsNk w.heap.size w v a := Kd.V_mono (Kd.V_bound h) (fun k hk => by omega)
theorem K_addF {w : World} {u v : Value} {a b k l : Nat} (ha : IsK w u a k) (hb : IsK w v b l) (hk : k ≤ 1000) (hl : l ≤ 1000) :
    Calls Try.prog 23 #[.agg #[u], .agg #[v]] w fun e w' => ∃ x, e = .returned (.agg #[x]) ∧ IsNF w.heap.size w' x (a + b) ∧ Below w.heap.size w w' := by
  have h1 := ha.len; have h2 := hb.len
  obtain ⟨A, c, rfl, e1, e2⟩ := ha.1.reads
  obtain ⟨A', c', rfl, e1', e2'⟩ := hb.1.reads
  obtain ⟨k, hk⟩ := Ev.got (E_add a b (by omega) (by omega))
  exact (nat_Nat_Add.calls k A c (N a) A' c' (N b) _ w e2 e1 e2' e1' hk).mono fun e w' ⟨x, he, hx, hw⟩ => ⟨x, he, Kd.V_lower hx (Nat.zero_le _), hw⟩
theorem IsN.slice {w : World} {v : Value} {a : Nat} (h : IsN w v a) : ∃ A c, v = .slice A (N a).length c := by
  obtain ⟨A, c, hv, _⟩ := h.reads
  exact ⟨A, c, hv⟩
theorem IsK.mono {w : World} {v : Value} {a k l : Nat} (h : IsK w v a k) (hl : k ≤ l) : IsK w v a l :=
  ⟨h.1, Nat.lt_of_lt_of_le h.2 (Nat.pow_le_pow_right (by omega) hl)⟩
end Go.Proofs.Ytclmdidgioggdaa.Num
