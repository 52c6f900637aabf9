/- cache: out, front: the walks. -/
import Derived.Test.YtphfomnjhlfdhaaCa
import Derived.Test.YtphfomnjhlfdhaaFix3
import Derived.Test.YtphfomnjhlfdhaaProg
import Derived.Lib.Hide
namespace Go.Proofs.Ytphfomnjhlfdhaa.Cod
open Go.RowKit
/-- the same memory; draws apart -/
structure Eqh (a b : World) : Prop where
  heap : a.heap = b.heap
  os : a.os = b.os
  tape : a.tape = b.tape
  output : a.output = b.output
theorem NodeAt.lt {T : TypeId} {w : World} {a p n : Nat} {k : ByteArray} {v : Int} (h : NodeAt T w a k v p n) : a < w.heap.size := (Array.getElem?_eq_some_iff.1 h).1
set_option maxHeartbeats 4000000 in
set_option maxRecDepth 100000 in
theorem C_out {x p q : Nat} {k kp kq : ByteArray} {v vp vq : Int} {pp pn qp qn : Nat} (w : World) (hx : NodeAt 49 w x k v p q) (hp : NodeAt 49 w p kp vp pp pn) (hq : NodeAt 49 w q kq vq qp qn) (h1 : p ≠ x) (h2 : q ≠ x) :
    Calls Try.prog 19 #[ptr x] w fun e w' => e = .returned (.tuple #[]) ∧ Eqh w' ((w.setCell ⟨p, 3, none⟩ (ptr q)).setCell ⟨q, 2, none⟩ (ptr p)) := by
  unfold ptr
  go_enter Try.func19, Try.ntmps19
  refine region_fix3 [18, 21] (fun _ _ _ => undef) (fun k W W' => if k = 0 then W' = W.setCell ⟨p, 3, none⟩ (ptr q) else W' = W.setCell ⟨q, 2, none⟩ (ptr p)) (by kernel_rfl) (by kernel_rfl) (fun k W => by by_cases h : k = 0; exact ⟨_, by rw [if_pos h]⟩; exact ⟨_, by rw [if_neg h]⟩) fun g g0 hG => ?_
  have e0 : g 1 = (g 0).setCell ⟨p, 3, none⟩ (ptr q) := hG 0 (by decide)
  have e1 : g 2 = (g 1).setCell ⟨q, 2, none⟩ (ptr p) := hG 1 (by decide)
  have x0 : NodeAt 49 (g 0) x k v p q := by rw [g0]; exact hx
  have x1 : NodeAt 49 (g 1) x k v p q := by rw [e0]; exact x0.other (Ne.symm h1) _
  have x2 : NodeAt 49 (g 2) x k v p q := by rw [e1]; exact x1.other (Ne.symm h2) _
  have hx' : ∀ s, s ≤ 2 → NodeAt 49 (g s) x k v p q := fun s hs => by
    rcases (by omega : s = 0 ∨ s = 1 ∨ s = 2) with rfl | rfl | rfl
    · exact x0
    · exact x1
    · exact x2
  have p0 : NodeAt 49 (g 0) p kp vp pp pn := by rw [g0]; exact hp
  have q1 : ∃ qn', NodeAt 49 (g 1) q kq vq qp qn' := by
    rw [e0]
    have q0 : NodeAt 49 (g 0) q kq vq qp qn := by rw [g0]; exact hq
    by_cases e : q = p
    · subst e; exact ⟨_, q0.next⟩
    · exact ⟨_, q0.other e _⟩
  obtain ⟨qn', q1⟩ := q1
  have HX := Lib.hid hx'
  have E0 := Lib.hid e0
  have E1 := Lib.hid e1
  have G0 := Lib.hid g0
  have P0 := Lib.hid p0
  have Q1 := Lib.hid q1
  clear hG e0 e1 g0 x0 x1 x2 hx' p0 q1 hx hp hq
  refine fix3_step ?_ (by kernel_rfl) rfl (fun J s _ _ hJ => ?_) ?_
  rotate_left
  · go_simp
    exact hJ _ rfl
  intro J hJ
  go_simp
  refine hJ _ ?_
  clear hJ J
  refine fix3_step ?_ (by kernel_rfl) rfl (fun J s _ _ hJ => ?_) ?_
  rotate_left
  · go_simp
    exact hJ _ rfl
  intro J hJ
  go_simp
  refine hJ _ ?_
  clear hJ J
  refine fix3_step ?_ (by kernel_rfl) rfl (fun J s _ _ hJ => ?_) ?_
  rotate_left
  · go_simp
    exact hJ _ rfl
  intro J hJ
  go_simp
  refine hJ _ ?_
  clear hJ J
  refine fix3_mid ?_ 0 2 (by kernel_rfl) rfl (fun J s hl hs hJ => ?_) ?_
  rotate_left
  · have hc : (g s).cell? ⟨x, 2, none⟩ = some (.pointer (some ⟨p, 0, none⟩)) := by rw [cell_of_row _ _ _ _ _ _ (HX.out s hs)]; rfl
    go_simp
    exact hJ _ rfl
  intro J hJ
  go_simp
  refine hJ _ ?_
  clear hJ J
  refine fix3_step ?_ (by kernel_rfl) rfl (fun J s _ _ hJ => ?_) ?_
  rotate_left
  · go_simp
    exact hJ _ rfl
  intro J hJ
  go_simp
  refine hJ _ ?_
  clear hJ J
  refine fix3_step ?_ (by kernel_rfl) rfl (fun J s _ _ hJ => ?_) ?_
  rotate_left
  · go_simp
    exact hJ _ rfl
  intro J hJ
  go_simp
  refine hJ _ ?_
  clear hJ J
  refine fix3_step ?_ (by kernel_rfl) rfl (fun J s _ _ hJ => ?_) ?_
  rotate_left
  · go_simp
    exact hJ _ rfl
  intro J hJ
  go_simp
  refine hJ _ ?_
  clear hJ J
  refine fix3_mid ?_ 0 2 (by kernel_rfl) rfl (fun J s hl hs hJ => ?_) ?_
  rotate_left
  · have hc : (g s).cell? ⟨x, 3, none⟩ = some (.pointer (some ⟨q, 0, none⟩)) := by rw [cell_of_row _ _ _ _ _ _ (HX.out s hs)]; rfl
    go_simp
    exact hJ _ rfl
  intro J hJ
  go_simp
  refine hJ _ ?_
  clear hJ J
  refine fix3_step ?_ (by kernel_rfl) rfl (fun J s _ _ hJ => ?_) ?_
  rotate_left
  · go_simp
    exact hJ _ rfl
  intro J hJ
  go_simp
  refine hJ _ ?_
  clear hJ J
  refine fix3_step ?_ (by kernel_rfl) rfl (fun J s _ _ hJ => ?_) ?_
  rotate_left
  · go_simp
    exact hJ _ rfl
  intro J hJ
  go_simp
  refine hJ _ ?_
  clear hJ J
  refine fix3_step ?_ (by kernel_rfl) rfl (fun J s _ _ hJ => ?_) ?_
  rotate_left
  · go_simp
    exact hJ _ rfl
  intro J hJ
  go_simp
  refine hJ _ ?_
  clear hJ J
  refine fix3_mid ?_ 0 2 (by kernel_rfl) rfl (fun J s hl hs hJ => ?_) ?_
  rotate_left
  · have hc : (g s).cell? ⟨x, 3, none⟩ = some (.pointer (some ⟨q, 0, none⟩)) := by rw [cell_of_row _ _ _ _ _ _ (HX.out s hs)]; rfl
    go_simp
    exact hJ _ rfl
  intro J hJ
  go_simp
  refine hJ _ ?_
  clear hJ J
  refine fix3_step ?_ (by kernel_rfl) rfl (fun J s _ _ hJ => ?_) ?_
  rotate_left
  · go_simp
    exact hJ _ rfl
  intro J hJ
  go_simp
  refine hJ _ ?_
  clear hJ J
  refine fix3_step ?_ (by kernel_rfl) rfl (fun J s _ _ hJ => ?_) ?_
  rotate_left
  · go_simp
    exact hJ _ rfl
  intro J hJ
  go_simp
  refine hJ _ ?_
  clear hJ J
  refine fix3_step ?_ (by kernel_rfl) rfl (fun J s _ _ hJ => ?_) ?_
  rotate_left
  · go_simp
    exact hJ _ rfl
  intro J hJ
  go_simp
  refine hJ _ ?_
  clear hJ J
  refine fix3_mid ?_ 0 2 (by kernel_rfl) rfl (fun J s hl hs hJ => ?_) ?_
  rotate_left
  · have hc : (g s).cell? ⟨x, 2, none⟩ = some (.pointer (some ⟨p, 0, none⟩)) := by rw [cell_of_row _ _ _ _ _ _ (HX.out s hs)]; rfl
    go_simp
    exact hJ _ rfl
  intro J hJ
  go_simp
  refine hJ _ ?_
  clear hJ J
  refine fix3_step ?_ (by kernel_rfl) rfl (fun J s _ _ hJ => ?_) ?_
  rotate_left
  · go_simp
    exact hJ _ rfl
  intro J hJ
  go_simp
  refine hJ _ ?_
  clear hJ J
  refine fix3_step ?_ (by kernel_rfl) rfl (fun J s _ _ hJ => ?_) ?_
  rotate_left
  · go_simp
    exact hJ _ rfl
  intro J hJ
  go_simp
  refine hJ _ ?_
  clear hJ J
  refine fix3_eff 0 (undef) (rfl) (by kernel_rfl) rfl (fun J hJ => ?_) ?_
  · (have hc : (g 0).cell? ⟨p, 3, none⟩ = some (ptr pn) := (by rw [cell_of_row _ _ _ _ _ _ P0.out]; rfl); have hf := frozen_of_row (g 0) p 3 _ _ P0.out; go_simp; exact hJ _ rfl)
  intro J hJ
  go_simp
  refine hJ _ ?_
  clear hJ J
  refine fix3_step ?_ (by kernel_rfl) rfl (fun J s _ _ hJ => ?_) ?_
  rotate_left
  · go_simp
    exact hJ _ rfl
  intro J hJ
  go_simp
  refine hJ _ ?_
  clear hJ J
  refine fix3_step ?_ (by kernel_rfl) rfl (fun J s _ _ hJ => ?_) ?_
  rotate_left
  · go_simp
    exact hJ _ rfl
  intro J hJ
  go_simp
  refine hJ _ ?_
  clear hJ J
  refine fix3_eff 1 (undef) (rfl) (by kernel_rfl) rfl (fun J hJ => ?_) ?_
  · (have hc : (g 1).cell? ⟨q, 2, none⟩ = some (ptr qp) := (by rw [cell_of_row _ _ _ _ _ _ Q1.out]; rfl); have hf := frozen_of_row (g 1) q 2 _ _ Q1.out; go_simp; exact hJ _ rfl)
  intro J hJ
  go_simp
  refine hJ _ ?_
  clear hJ J
  refine fix3_nil ?_
  have hg : g [18, 21].length = g 2 := rfl
  rw [hg]
  go_end0
  refine ⟨rfl, ?_⟩
  rw [E1.out, E0.out, G0.out]
  exact ⟨rfl, rfl, rfl, rfl⟩
end Go.Proofs.Ytphfomnjhlfdhaa.Cod
