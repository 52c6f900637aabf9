/- Rows of numbers that are grown. -/
import Derived.Test.YtgkiehefneamcaaTabA
import Derived.Test.YtgkiehefneamcaaTabL
import Derived.Laws.AppendOwnNone
import Derived.Laws.OwnMore
namespace Go.Proofs.Ytgkiehefneamcaa.Cod
open Go.RowKit
def ic (l : List Int) : List Value := l.map fun x => .int .i64 x
theorem ic_len (l : List Int) : (ic l).length = l.length := by simp [ic]
theorem ic_append (a b : List Int) : ic (a ++ b) = ic a ++ ic b := by simp [ic]
theorem ic_get (l : List Int) (i : Nat) (h : i < l.length) : (ic l)[i]? = some (.int .i64 l[i]) := by simp [ic, h]
theorem ic_one (l : List Int) : ∀ u ∈ ic l, u.oneCell' = true := by
  intro u hu
  obtain ⟨x, _, rfl⟩ := List.mem_map.1 hu
  rfl
theorem ints_of_own {w : World} {B t : Nat} {v : Value} {l : List Int} (h : w.ownsRow B t 1 v l.length (ic l)) : ∃ A c, v = .slice A l.length c ∧ IntsAt w A l := by
  rcases Nat.eq_zero_or_pos l.length with h0 | h0
  · rcases h.2 with ⟨rfl, _⟩ | ⟨g, cap, cur, rfl, _⟩
    · exact ⟨none, 0, by rw [h0], fun i hi => absurd hi (by omega)⟩
    · exact ⟨_, cap, rfl, fun i hi => absurd hi (by omega)⟩
  · rcases h.2 with ⟨_, h1⟩ | ⟨g, cap, cur, rfl, hb, hg, _⟩
    · omega
    · have hlt : g < w.heap.size := (Array.getElem?_eq_some_iff.1 hg).1
      exact ⟨_, cap, rfl, fun i hi => ⟨⟨g, 0, none⟩, rfl, hlt, h.cells (g := g) rfl _ _ (ic_get l i hi)⟩⟩
theorem infoI : (Try.prog.info? 3).map (fun i => (i.zero, i.size, i.bytes)) = some (some (.int .i64 0), 1, 8) := by kernel_rfl
set_option maxRecDepth 100000 in
/-- numbers behind an own row of numbers -/
theorem wpList_append_ints {w : World} {ops : Array Oper} {rest : List Oper} {o : Oper} {a : Act} {Q : Exit → Act → World → Prop} (hgd : o.guard = none) (s x : Operand)
    (ho : o.op = .call { callee := .builtin .append, args := #[s, x], argTypes := #[41, 41] })
    (base : Nat) (v : Value) (l : List Int) (hs : a.eval s = v) (hown : w.ownsRow base 3 1 v l.length (ic l))
    (A : Option Addr) (c : Nat) (m : List Int) (hx : a.eval x = .slice A m.length c) (hm : IntsAt w A m) (hn : A = none → m = [] ∧ c = 0)
    (h63 : l.length + m.length ≤ 1000000) (hbase : base ≤ w.heap.size)
    (h : ∀ v' w', w'.ownsRow base 3 1 v' (l ++ m).length (ic (l ++ m)) → (∀ b0 w0, Below b0 w0 w → b0 ≤ base → Below b0 w0 w') → wpList Try.prog ops Q rest (a.put o.dst v') w') : wpList Try.prog ops Q (o :: rest) a w := by
  obtain ⟨i0, hi, hz0, hz1, hz2⟩ := info_parts infoI
  cases A with
  | none =>
    obtain ⟨rfl, rfl⟩ := hn rfl
    refine wpList_append_own_none hgd s x 41 ho base 3 i0 1 Try.underlying41 hi v l.length (ic l) hs hown hx (h v w ?_ fun _ _ hb _ => hb)
    rw [List.append_nil]; exact hown
  | some ad =>
    refine wpList_append_own w hgd s x 41 ho base 3 i0 (.int .i64 0) 1 8 Try.underlying41 hi hz0 hz1 hz2 rfl (by decide) v l.length (ic l) hs hown ad m.length c (ic m) hx (by rw [ic_len]; omega) ?_ (ic_one m) (by unfold maxLen; omega) (by omega) hbase ?_
    · intro j u hu
      have hj : j < m.length := by
        have := (List.getElem?_eq_some_iff.1 hu).1
        rwa [ic_len] at this
      rw [ic_get m j hj] at hu
      obtain ⟨ad', e, _, hc⟩ := hm j hj
      injection e with e
      subst e
      rw [hc, hu]
    · intro v' w' hown' hgrow _
      refine h v' w' ?_ ?_
      · rw [List.length_append, ic_append]; exact hown'
      · intro b0 w0 hb hle
        exact hb.grown hgrow (by omega) (fun k hk => by have := (hown.lt k hk).1; omega)
end Go.Proofs.Ytgkiehefneamcaa.Cod
