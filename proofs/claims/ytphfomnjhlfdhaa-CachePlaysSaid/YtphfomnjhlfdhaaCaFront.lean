/- cache: front: the walk. -/
import Derived.Test.YtphfomnjhlfdhaaCaOut
import Derived.Deep.Cut
namespace Go.Proofs.Ytphfomnjhlfdhaa.Cod
open Go.RowKit
set_option maxHeartbeats 4000000 in
set_option maxRecDepth 100000 in
theorem C_front {c x h q : Nat} {k kq : ByteArray} {v vq : Int} {u2 u3 : Value} {hp qp qn : Nat} {kh : ByteArray} {vh : Int} {m : Option Nat} {most hits gets : Int} (w : World)
    (hc : w.heap[c]? = some (.cells #[.map m, ptr h, .int .i64 most, .int .i64 hits, .int .i64 gets] 52 (0, 0)))
    (hx : w.heap[x]? = some (.cells #[.string k, .int .i64 v, u2, u3] 49 (0, 0))) (hh : NodeAt 49 w h kh vh hp q) (hq : NodeAt 49 w q kq vq qp qn) (h1 : h ≠ x) (h2 : q ≠ x) :
    Calls Try.prog 20 #[ptr c, ptr x] w fun e w' => e = .returned (.tuple #[]) ∧ Eqh w' ((((w.setCell ⟨x, 2, none⟩ (ptr h)).setCell ⟨x, 3, none⟩ (ptr q)).setCell ⟨h, 3, none⟩ (ptr x)).setCell ⟨q, 2, none⟩ (ptr x)) := by
  have hcx : c ≠ x := fun e => by
    rw [← e, hc] at hx
    simp at hx
  have hch : c ≠ h := fun e => by
    unfold NodeAt at hh
    rw [← e, hc] at hh
    simp at hh
  unfold ptr at hc ⊢
  go_enter Try.func20, Try.ntmps20
  go_upto_region 0 with (fail)
  refine region_fix3 [15, 18] (fun _ _ _ => undef) (fun k W W' => if k = 0 then W' = W.setCell ⟨x, 2, none⟩ (ptr h) else W' = W.setCell ⟨x, 3, none⟩ (ptr q)) (by kernel_rfl) (by kernel_rfl) (fun k W => by by_cases h : k = 0; exact ⟨_, by rw [if_pos h]⟩; exact ⟨_, by rw [if_neg h]⟩) fun g g0 hG => ?_
  have e0 : g 1 = (g 0).setCell ⟨x, 2, none⟩ (ptr h) := hG 0 (by decide)
  have e1 : g 2 = (g 1).setCell ⟨x, 3, none⟩ (ptr q) := hG 1 (by decide)
  have xs0 : (g 0).heap[x]? = some (.cells #[.string k, .int .i64 v, u2, u3] 49 (0, 0)) := by rw [g0]; exact hx
  have xs1 : (g 1).heap[x]? = some (.cells #[.string k, .int .i64 v, ptr h, u3] 49 (0, 0)) := by rw [e0]; exact (set_cell xs0 _).trans rfl
  have xs2 : NodeAt 49 (g 2) x k v h q := by rw [e1]; exact (set_cell xs1 _).trans rfl
  have oth : ∀ s, s ≤ 2 → ∀ a, a ≠ x → (g s).heap[a]? = w.heap[a]? := fun s hs a ha => by
    have o0 : (g 0).heap[a]? = w.heap[a]? := by rw [g0]; rfl
    have o1 : (g 1).heap[a]? = w.heap[a]? := by rw [e0]; exact (Below.heap_setCell _ ⟨x, 2, none⟩ _ a ha).trans o0
    have o2 : (g 2).heap[a]? = w.heap[a]? := by rw [e1]; exact (Below.heap_setCell _ ⟨x, 3, none⟩ _ a ha).trans o1
    rcases (by omega : s = 0 ∨ s = 1 ∨ s = 2) with rfl | rfl | rfl
    · exact o0
    · exact o1
    · exact o2
  have hcs : ∀ s, s ≤ 2 → (g s).cell? ⟨c, 1, none⟩ = some (.pointer (some ⟨h, 0, none⟩)) := fun s hs => by rw [cell_of_row _ _ _ _ _ _ ((oth s hs c hcx).trans hc)]; rfl
  have hhs : ∀ s, s ≤ 2 → (g s).cell? ⟨h, 3, none⟩ = some (.pointer (some ⟨q, 0, none⟩)) := fun s hs => by rw [cell_of_row _ _ _ _ _ _ ((oth s hs h h1).trans hh)]; rfl
  have HC := Lib.hid hcs
  have HH := Lib.hid hhs
  have E0 := Lib.hid e0
  have E1 := Lib.hid e1
  have G0 := Lib.hid g0
  have X0 := Lib.hid xs0
  have X1 := Lib.hid xs1
  have X2 := Lib.hid xs2
  have OTH := Lib.hid oth
  have HHW := Lib.hid hh
  have HQW := Lib.hid hq
  clear hG e0 e1 g0 xs0 xs1 xs2 hcs hhs oth hx hc hh hq
  refine fix3_step ?_ (by kernel_rfl) rfl (fun J s _ _ hJ => ?_) ?_
  rotate_left
  · go_simp
    exact hJ _ rfl
  intro J hJ
  go_simp
  refine hJ _ ?_
  clear hJ J
  refine fix3_step ?_ (by kernel_rfl) rfl (fun J s _ _ hJ => ?_) ?_
  rotate_left
  · go_simp
    exact hJ _ rfl
  intro J hJ
  go_simp
  refine hJ _ ?_
  clear hJ J
  refine fix3_step ?_ (by kernel_rfl) rfl (fun J s _ _ hJ => ?_) ?_
  rotate_left
  · go_simp
    exact hJ _ rfl
  intro J hJ
  go_simp
  refine hJ _ ?_
  clear hJ J
  refine fix3_step ?_ (by kernel_rfl) rfl (fun J s _ _ hJ => ?_) ?_
  rotate_left
  · go_simp
    exact hJ _ rfl
  intro J hJ
  go_simp
  refine hJ _ ?_
  clear hJ J
  refine fix3_step ?_ (by kernel_rfl) rfl (fun J s _ _ hJ => ?_) ?_
  rotate_left
  · go_simp
    exact hJ _ rfl
  intro J hJ
  go_simp
  refine hJ _ ?_
  clear hJ J
  refine fix3_mid ?_ 0 2 (by kernel_rfl) rfl (fun J s hl hs hJ => ?_) ?_
  rotate_left
  · have hc := HC.out s hs
    go_simp
    exact hJ _ rfl
  intro J hJ
  go_simp
  refine hJ _ ?_
  clear hJ J
  refine fix3_step ?_ (by kernel_rfl) rfl (fun J s _ _ hJ => ?_) ?_
  rotate_left
  · go_simp
    exact hJ _ rfl
  intro J hJ
  go_simp
  refine hJ _ ?_
  clear hJ J
  refine fix3_step ?_ (by kernel_rfl) rfl (fun J s _ _ hJ => ?_) ?_
  rotate_left
  · go_simp
    exact hJ _ rfl
  intro J hJ
  go_simp
  refine hJ _ ?_
  clear hJ J
  refine fix3_step ?_ (by kernel_rfl) rfl (fun J s _ _ hJ => ?_) ?_
  rotate_left
  · go_simp
    exact hJ _ rfl
  intro J hJ
  go_simp
  refine hJ _ ?_
  clear hJ J
  refine fix3_mid ?_ 0 2 (by kernel_rfl) rfl (fun J s hl hs hJ => ?_) ?_
  rotate_left
  · have hc := HC.out s hs
    go_simp
    exact hJ _ rfl
  intro J hJ
  go_simp
  refine hJ _ ?_
  clear hJ J
  refine fix3_step ?_ (by kernel_rfl) rfl (fun J s _ _ hJ => ?_) ?_
  rotate_left
  · go_simp
    exact hJ _ rfl
  intro J hJ
  go_simp
  refine hJ _ ?_
  clear hJ J
  refine fix3_step ?_ (by kernel_rfl) rfl (fun J s _ _ hJ => ?_) ?_
  rotate_left
  · go_simp
    exact hJ _ rfl
  intro J hJ
  go_simp
  refine hJ _ ?_
  clear hJ J
  refine fix3_mid ?_ 0 2 (by kernel_rfl) rfl (fun J s hl hs hJ => ?_) ?_
  rotate_left
  · have hc := HH.out s hs
    go_simp
    exact hJ _ rfl
  intro J hJ
  go_simp
  refine hJ _ ?_
  clear hJ J
  refine fix3_step ?_ (by kernel_rfl) rfl (fun J s _ _ hJ => ?_) ?_
  rotate_left
  · go_simp
    exact hJ _ rfl
  intro J hJ
  go_simp
  refine hJ _ ?_
  clear hJ J
  refine fix3_step ?_ (by kernel_rfl) rfl (fun J s _ _ hJ => ?_) ?_
  rotate_left
  · go_simp
    exact hJ _ rfl
  intro J hJ
  go_simp
  refine hJ _ ?_
  clear hJ J
  refine fix3_eff 0 (undef) (rfl) (by kernel_rfl) rfl (fun J hJ => ?_) ?_
  · (have hc : (g 0).cell? ⟨x, 2, none⟩ = some u2 := (by rw [cell_of_row _ _ _ _ _ _ X0.out]; rfl); have hf := frozen_of_row (g 0) x 2 _ _ X0.out; go_simp; exact hJ _ rfl)
  intro J hJ
  go_simp
  refine hJ _ ?_
  clear hJ J
  refine fix3_step ?_ (by kernel_rfl) rfl (fun J s _ _ hJ => ?_) ?_
  rotate_left
  · go_simp
    exact hJ _ rfl
  intro J hJ
  go_simp
  refine hJ _ ?_
  clear hJ J
  refine fix3_step ?_ (by kernel_rfl) rfl (fun J s _ _ hJ => ?_) ?_
  rotate_left
  · go_simp
    exact hJ _ rfl
  intro J hJ
  go_simp
  refine hJ _ ?_
  clear hJ J
  refine fix3_eff 1 (undef) (rfl) (by kernel_rfl) rfl (fun J hJ => ?_) ?_
  · (have hc : (g 1).cell? ⟨x, 3, none⟩ = some u3 := (by rw [cell_of_row _ _ _ _ _ _ X1.out]; rfl); have hf := frozen_of_row (g 1) x 3 _ _ X1.out; go_simp; exact hJ _ rfl)
  intro J hJ
  go_simp
  refine hJ _ ?_
  clear hJ J
  refine fix3_nil ?_
  have hg : g [15, 18].length = g 2 := rfl
  rw [hg]
  go_upto_region 1 with (fail)
  refine region_fix3 [12, 15] (fun _ _ _ => undef) (fun k W W' => if k = 0 then W' = W.setCell ⟨h, 3, none⟩ (ptr x) else W' = W.setCell ⟨q, 2, none⟩ (ptr x)) (by kernel_rfl) (by kernel_rfl) (fun k W => by by_cases h : k = 0; exact ⟨_, by rw [if_pos h]⟩; exact ⟨_, by rw [if_neg h]⟩) fun f f0 hF => ?_
  have d0 : f 1 = (f 0).setCell ⟨h, 3, none⟩ (ptr x) := hF 0 (by decide)
  have d1 : f 2 = (f 1).setCell ⟨q, 2, none⟩ (ptr x) := hF 1 (by decide)
  have y0 : NodeAt 49 (f 0) x k v h q := by rw [f0]; exact X2.out
  have y1 : NodeAt 49 (f 1) x k v h q := by rw [d0]; exact y0.other (Ne.symm h1) _
  have y2 : NodeAt 49 (f 2) x k v h q := by rw [d1]; exact y1.other (Ne.symm h2) _
  have yy : ∀ s, s ≤ 2 → NodeAt 49 (f s) x k v h q := fun s hs => by
    rcases (by omega : s = 0 ∨ s = 1 ∨ s = 2) with rfl | rfl | rfl
    · exact y0
    · exact y1
    · exact y2
  have hf0 : NodeAt 49 (f 0) h kh vh hp q := by rw [f0]; exact (OTH.out 2 (by omega) h h1).trans HHW.out
  have q1 : ∃ qn', NodeAt 49 (f 1) q kq vq qp qn' := by
    rw [d0]
    have q0 : NodeAt 49 (f 0) q kq vq qp qn := by rw [f0]; exact (OTH.out 2 (by omega) q h2).trans HQW.out
    by_cases e : q = h
    · subst e; exact ⟨_, q0.next⟩
    · exact ⟨_, q0.other e _⟩
  obtain ⟨qn', q1⟩ := q1
  have YY := Lib.hid yy
  have D0 := Lib.hid d0
  have D1 := Lib.hid d1
  have F0 := Lib.hid f0
  have H0 := Lib.hid hf0
  have Q1 := Lib.hid q1
  clear hF d0 d1 f0 y0 y1 y2 yy hf0 q1 hg HC HH
  refine fix3_step ?_ (by kernel_rfl) rfl (fun J s _ _ hJ => ?_) ?_
  rotate_left
  · go_simp
    exact hJ _ rfl
  intro J hJ
  go_simp
  refine hJ _ ?_
  clear hJ J
  refine fix3_step ?_ (by kernel_rfl) rfl (fun J s _ _ hJ => ?_) ?_
  rotate_left
  · go_simp
    exact hJ _ rfl
  intro J hJ
  go_simp
  refine hJ _ ?_
  clear hJ J
  refine fix3_step ?_ (by kernel_rfl) rfl (fun J s _ _ hJ => ?_) ?_
  rotate_left
  · go_simp
    exact hJ _ rfl
  intro J hJ
  go_simp
  refine hJ _ ?_
  clear hJ J
  refine fix3_mid ?_ 0 2 (by kernel_rfl) rfl (fun J s hl hs hJ => ?_) ?_
  rotate_left
  · have hc : (f s).cell? ⟨x, 2, none⟩ = some (.pointer (some ⟨h, 0, none⟩)) := by rw [cell_of_row _ _ _ _ _ _ (YY.out s hs)]; rfl
    go_simp
    exact hJ _ rfl
  intro J hJ
  go_simp
  refine hJ _ ?_
  clear hJ J
  refine fix3_step ?_ (by kernel_rfl) rfl (fun J s _ _ hJ => ?_) ?_
  rotate_left
  · go_simp
    exact hJ _ rfl
  intro J hJ
  go_simp
  refine hJ _ ?_
  clear hJ J
  refine fix3_step ?_ (by kernel_rfl) rfl (fun J s _ _ hJ => ?_) ?_
  rotate_left
  · go_simp
    exact hJ _ rfl
  intro J hJ
  go_simp
  refine hJ _ ?_
  clear hJ J
  refine fix3_step ?_ (by kernel_rfl) rfl (fun J s _ _ hJ => ?_) ?_
  rotate_left
  · go_simp
    exact hJ _ rfl
  intro J hJ
  go_simp
  refine hJ _ ?_
  clear hJ J
  refine fix3_mid ?_ 0 2 (by kernel_rfl) rfl (fun J s hl hs hJ => ?_) ?_
  rotate_left
  · have hc : (f s).cell? ⟨x, 3, none⟩ = some (.pointer (some ⟨q, 0, none⟩)) := by rw [cell_of_row _ _ _ _ _ _ (YY.out s hs)]; rfl
    go_simp
    exact hJ _ rfl
  intro J hJ
  go_simp
  refine hJ _ ?_
  clear hJ J
  refine fix3_step ?_ (by kernel_rfl) rfl (fun J s _ _ hJ => ?_) ?_
  rotate_left
  · go_simp
    exact hJ _ rfl
  intro J hJ
  go_simp
  refine hJ _ ?_
  clear hJ J
  refine fix3_step ?_ (by kernel_rfl) rfl (fun J s _ _ hJ => ?_) ?_
  rotate_left
  · go_simp
    exact hJ _ rfl
  intro J hJ
  go_simp
  refine hJ _ ?_
  clear hJ J
  refine fix3_step ?_ (by kernel_rfl) rfl (fun J s _ _ hJ => ?_) ?_
  rotate_left
  · go_simp
    exact hJ _ rfl
  intro J hJ
  go_simp
  refine hJ _ ?_
  clear hJ J
  refine fix3_step ?_ (by kernel_rfl) rfl (fun J s _ _ hJ => ?_) ?_
  rotate_left
  · go_simp
    exact hJ _ rfl
  intro J hJ
  go_simp
  refine hJ _ ?_
  clear hJ J
  refine fix3_eff 0 (undef) (rfl) (by kernel_rfl) rfl (fun J hJ => ?_) ?_
  · (have hc : (f 0).cell? ⟨h, 3, none⟩ = some (ptr q) := (by rw [cell_of_row _ _ _ _ _ _ H0.out]; rfl); have hf := frozen_of_row (f 0) h 3 _ _ H0.out; go_simp; exact hJ _ rfl)
  intro J hJ
  go_simp
  refine hJ _ ?_
  clear hJ J
  refine fix3_step ?_ (by kernel_rfl) rfl (fun J s _ _ hJ => ?_) ?_
  rotate_left
  · go_simp
    exact hJ _ rfl
  intro J hJ
  go_simp
  refine hJ _ ?_
  clear hJ J
  refine fix3_step ?_ (by kernel_rfl) rfl (fun J s _ _ hJ => ?_) ?_
  rotate_left
  · go_simp
    exact hJ _ rfl
  intro J hJ
  go_simp
  refine hJ _ ?_
  clear hJ J
  refine fix3_eff 1 (undef) (rfl) (by kernel_rfl) rfl (fun J hJ => ?_) ?_
  · (have hc : (f 1).cell? ⟨q, 2, none⟩ = some (ptr qp) := (by rw [cell_of_row _ _ _ _ _ _ Q1.out]; rfl); have hf := frozen_of_row (f 1) q 2 _ _ Q1.out; go_simp; exact hJ _ rfl)
  intro J hJ
  go_simp
  refine hJ _ ?_
  clear hJ J
  refine fix3_nil ?_
  have hg : f [12, 15].length = f 2 := rfl
  rw [hg]
  go_end0
  refine ⟨rfl, ?_⟩
  rw [D1.out, D0.out, F0.out, E1.out, E0.out, G0.out]
  exact ⟨rfl, rfl, rfl, rfl⟩
end Go.Proofs.Ytphfomnjhlfdhaa.Cod
