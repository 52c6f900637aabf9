/- disk: Clone. -/
import Derived.Test.YtakefjdckacgpaaDskP
import Derived.Shelf.SlMaps.Clone
namespace Go.Proofs.Ytakefjdckacgpaa.Cod
open Go.RowKit
set_option maxHeartbeats 4000000 in
set_option maxRecDepth 100000 in
theorem C_mclone {w : World} {m : Nat} {es : Array MapEntry} {clock : Nat} (hb : w.heap[m]? = some (.map es clock)) : Calls Try.prog 33 #[.map (some m)] w fun e w' => e = .returned (.map (some w.heap.size)) ∧ w' = w.alloc (.map es clock) := by
  have hq := fun w => run_eql_map_nil_sl (P := Try.prog) w DMT _ _ (some m) und_dm
  go_enter Try.func33, Try.ntmps33
  go_wp2
  rw [run_callFunc_extern Try.func46 (by kernel_rfl) (by kernel_rfl) (by kernel_rfl) (e := Extern.MapsClone.clone) (by kernel_rfl), run_maps_clone_sl w DMT hb]
  simp only [Result.andThen]
  rw [Oper.upon_value]
  go_wp2
  rw [run_typeAssert_map_sl _ DMT 20 _ _ _ und_dm]
  simp only [Result.andThen]
  rw [Oper.upon_value]
  go_wp2
  go_ret
  exact ⟨rfl, rfl⟩
theorem MapAt.clone {w : World} {m : Nat} {l : List KV} (h : MapAt w m l) : ∃ es c, w.heap[m]? = some (.map es c) ∧ MapAt (w.alloc (.map es c)) w.heap.size l := by
  obtain ⟨es, c, h1, h2, h3⟩ := h
  exact ⟨es, c, h1, es, c, push_new rfl, h2, h3⟩
set_option maxHeartbeats 4000000 in
set_option maxRecDepth 100000 in
theorem D_clone {w : World} {d m : Nat} {s : Dst} (h : DiskAt w d m s) : Calls Try.prog 13 #[ptr d] w fun e w' => ∃ d2 m2, e = .returned (ptr d2) ∧ DiskAt w' d2 m2 s ∧ Below w.heap.size w w' ∧ w.heap.size ≤ d2 ∧ w.heap.size ≤ m2 := by
  obtain ⟨es, c, hb, hm2⟩ := (h.below (w' := w.alloc (.cells #[.map (some m), .int .i64 s.room, .int .i64 s.deeds, .int .i64 s.halt, .bool s.down] DT)) ((Below.refl _ _).alloc (Nat.le_refl _) _)).map.clone
  have c0 := cell_of_row _ _ 0 _ _ _ h.cell
  have c1 := cell_of_row _ _ 1 _ _ _ h.cell
  have c2 := cell_of_row _ _ 2 _ _ _ h.cell
  have c3 := cell_of_row _ _ 3 _ _ _ h.cell
  have c4 := cell_of_row _ _ 4 _ _ _ h.cell
  have hdl := h.lt.1
  have HB := Lib.hid hb
  have HM := Lib.hid hm2
  have HH := Lib.hid h
  clear hb hm2 h
  go_enter Try.func13, Try.ntmps13
  go_wp2_with fail
  go_at_call 33
  with_reducible refine (C_mclone HB.out).mono ?_
  rintro e w1 ⟨rfl, rfl⟩
  go_wp2
  go_ret
  refine ⟨_, (w.alloc (.cells #[.map (some m), .int .i64 s.room, .int .i64 s.deeds, .int .i64 s.halt, .bool s.down] DT)).heap.size, rfl, ?_, ?_, Nat.le_refl _, by simp⟩
  · have e1 : (w.alloc (.cells #[.map (some m), .int .i64 s.room, .int .i64 s.deeds, .int .i64 s.halt, .bool s.down] DT)).heap.size = w.heap.size + 1 := by simp
    rw [e1] at HM ⊢
    exact ⟨(push_old (by simp)).trans (push_new rfl), HM.out.of_block ((push_new (by simp)).trans (push_new (by simp)).symm), HH.out.sure, HH.out.room, HH.out.used, HH.out.deeds, HH.out.halt⟩
  · exact ((Below.refl _ _).alloc (Nat.le_refl _) _).alloc (by simp) _
end Go.Proofs.Ytakefjdckacgpaa.Cod
