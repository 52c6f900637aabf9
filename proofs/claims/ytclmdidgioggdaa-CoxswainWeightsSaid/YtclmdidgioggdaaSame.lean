/- NatRules's closure: are two numbers one? By what its calls mean. -/
import Derived.Test.YtclmdidgioggdaaNatC
namespace Go.Proofs.Ytclmdidgioggdaa.Num
open Go.RowKit Go.Proofs.YtclmdidgioggdaaW.PrintWords Go.Proofs.YtclmdidgioggdaaW.PrintLast Go.Proofs.Ytclmdidgioggdaa.Q
attribute [local irreducible] IsN
theorem S_step {w W W' : World} {p q : Addr} {u v : Value} {a b : Nat} (h : W.cell? p = some u ∧ W.cell? q = some v ∧ IsN W u a ∧ IsN W v b ∧ Below w.heap.size w W) (hb : Below W.heap.size W W') :
    W'.cell? p = some u ∧ W'.cell? q = some v ∧ IsN W' u a ∧ IsN W' v b ∧ Below w.heap.size w W' :=
  ⟨pw_cell_below hb h.1, pw_cell_below hb h.2.1, h.2.2.1.below hb, h.2.2.2.1.below hb, below_then h.2.2.2.2 h.2.2.2.2.size hb⟩
set_option maxHeartbeats 4000000 in
set_option maxRecDepth 100000 in
theorem C_same {w : World} {u v : Value} {a : Nat} (ha : IsN w u a) (hb : IsN w v a) (la : (N a).length ≤ 1099511627776) (ta : (T a).length ≤ 1000000) :
    Calls Try.prog 49 #[.agg #[u], .agg #[v]] w fun e w' => e = .returned (.bool true) ∧ Below w.heap.size w w' := by
  have hu31 := Try.underlying31
  have hcmp : (if a < a then (-1 : Int) else if a < a then 1 else 0) = 0 := by rw [if_neg (by omega), if_neg (by omega)]
  go_enter Try.func49, Try.ntmps49
  go_wp2
  obtain ⟨W, hW⟩ : ∃ W, W = (w.alloc (.cells #[u] 31)).alloc (.cells #[v] 31) := ⟨_, rfl⟩
  have HB : Below w.heap.size w W := by subst hW; exact below_alloc (below_alloc (Below.refl _ _) _) _
  have c0 : W.cell? ⟨w.heap.size, 0, none⟩ = some u := by subst hW; simp
  have c1 : W.cell? ⟨w.heap.size + 1, 0, none⟩ = some v := by subst hW; simp
  rw [← hW]
  have h0 : W.cell? ⟨w.heap.size, 0, none⟩ = some u ∧ W.cell? ⟨w.heap.size + 1, 0, none⟩ = some v ∧ IsN W u a ∧ IsN W v a ∧ Below w.heap.size w W := ⟨c0, c1, ha.below HB, hb.below HB, HB⟩
  have H0 := Aside0.mk h0
  clear ha hb c0 c1 HB hW h0
  go_region_held (fun W' => W'.cell? ⟨w.heap.size, 0, none⟩ = some u ∧ W'.cell? ⟨w.heap.size + 1, 0, none⟩ = some v ∧ IsN W' u a ∧ IsN W' v a ∧ Below w.heap.size w W')
    (first | exact S_step ‹_ ∧ _ ∧ IsN _ u a ∧ IsN _ v a ∧ Below w.heap.size w _› hw1 | exact S_step H0.out (below_drew1 (Below.refl _ _)))
    (first
      | (go_at_call 33; have hS_ := ‹_ ∧ _ ∧ IsN _ u a ∧ IsN _ v a ∧ Below w.heap.size w _›; with_reducible refine (C_cmp hS_.2.2.1 hS_.2.2.2.1 la la).mono ?_; rw [hcmp]; clear hS_; rintro e w1 ⟨rfl, hw1⟩)
      | (go_at_call 26; have hS_ := ‹_ ∧ _ ∧ IsN _ u a ∧ IsN _ v a ∧ Below w.heap.size w _›; first
          | (with_reducible refine (C_text hS_.2.2.1 la ta).mono ?_; clear hS_; rintro e w1 ⟨rfl, hw1⟩)
          | (with_reducible refine (C_text hS_.2.2.2.1 la ta).mono ?_; clear hS_; rintro e w1 ⟨rfl, hw1⟩)))
  have hS := ‹_ ∧ _ ∧ IsN _ u a ∧ IsN _ v a ∧ Below w.heap.size w _›
  go_wp2
  go_ret
  exact ⟨rfl, hS.2.2.2.2⟩
end Go.Proofs.Ytclmdidgioggdaa.Num
