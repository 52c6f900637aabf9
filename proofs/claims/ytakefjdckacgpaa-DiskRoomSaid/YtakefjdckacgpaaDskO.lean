/- disk: Append, and its closures. -/
import Derived.Test.YtakefjdckacgpaaDskD
import Derived.Test.YtakefjdckacgpaaDkM
import Derived.Laws.EntriesVeiled
import Derived.Deep.Cut
import Derived.Shelf.Abstract
namespace Go.Proofs.Ytakefjdckacgpaa.Cod
open Go.RowKit
/-- the boxes that a closure of the disk's holds -/
structure Boxes (w : World) (db nb : Nat) (d : Nat) (n : ByteArray) : Prop where
  dbox : w.heap[db]? = some (.cells #[ptr d] 24 (0, 0))
  nbox : w.heap[nb]? = some (.cells #[.string n] 9 (0, 0))
theorem Boxes.of_blocks {w w' : World} {db nb d : Nat} {n : ByteArray} (h : Boxes w db nb d n) (e1 : w'.heap[db]? = w.heap[db]?) (e2 : w'.heap[nb]? = w.heap[nb]?) : Boxes w' db nb d n := ⟨e1.trans h.dbox, e2.trans h.nbox⟩
theorem Boxes.below {w w' : World} {db nb d : Nat} {n : ByteArray} (h : Boxes w db nb d n) (b : Below w.heap.size w w') : Boxes w' db nb d n := h.of_blocks (b.block _ (lt_of_heap h.dbox)) (b.block _ (lt_of_heap h.nbox))
theorem Boxes.touch {w w' : World} {db nb d : Nat} {n : ByteArray} {S : List Nat} (h : Boxes w db nb d n) (t : Touch S w w') (h1 : db ∉ S) (h2 : nb ∉ S) : Boxes w' db nb d n := h.of_blocks (t.block _ (lt_of_heap h.dbox) h1) (t.block _ (lt_of_heap h.nbox) h2)
/-- a store into the map of a disk -/
theorem disk_put {w : World} {d m : Nat} {s : Dst} (h : DiskAt w d m s) (n : ByteArray) (v : ByteArray × Nat) (hv : v.2 ≤ v.1.size) (hu : (used (fput s.files n v) : Int) ≤ s.room) :
    ∃ o, (Instr.mapUpdate DMT (.map (some m)) (.string n) (fval v)).run Try.prog w = .ok () { w with heap := w.heap.setIfInBounds m o } ∧ DiskAt { w with heap := w.heap.setIfInBounds m o } d m { s with files := fput s.files n v } := by
  obtain ⟨o, ho, hM⟩ := run_kput und_dm und_str h.map n (fval v)
  rw [kput_fkv] at hM
  exact ⟨o, ho, (Array.getElem?_setIfInBounds_ne h.lt.2.2.symm).trans h.cell, hM, fput_sure h.sure hv, h.room, hu, h.deeds, h.halt⟩
theorem disk_del {w : World} {d m : Nat} {s : Dst} (h : DiskAt w d m s) (n : ByteArray) :
    ∃ o, (Builtin.delete_ #[DMT, 9] 0 #[.map (some m), .string n]).run Try.prog w = .ok (.tuple #[]) { w with heap := w.heap.setIfInBounds m o } ∧ DiskAt { w with heap := w.heap.setIfInBounds m o } d m { s with files := fdel s.files n } := by
  obtain ⟨o, ho, hM⟩ := run_kdel und_dm und_str h.map n #[DMT, 9] rfl 0
  rw [kdel_fkv] at hM
  refine ⟨o, ho, (Array.getElem?_setIfInBounds_ne h.lt.2.2.symm).trans h.cell, hM, fdel_sure h.sure, h.room, ?_, h.deeds, h.halt⟩
  have := used_del h.nodup n
  have := h.used
  show (Cod.used (fdel s.files n) : Int) ≤ s.room
  omega
def mayApp (s : Dst) (x : ByteArray) : Int := if s.room - used s.files < x.size then 5 else 0
set_option maxHeartbeats 4000000 in
set_option maxRecDepth 100000 in
theorem D_app1 {w : World} {d m db nb sb : Nat} {s : Dst} {n x : ByteArray} (h : DiskAt w d m s) (hb : Boxes w db nb d n) (hs : w.heap[sb]? = some (.cells #[.string x] 9 (0, 0))) (f : ByteArray × Nat) :
    Calls Try.prog 28 #[fval f, ptr sb, ptr db] w fun e w' => e = .returned (.int .i64 (mayApp s x)) ∧ Below w.heap.size w w' := by
  obtain ⟨ct, sr⟩ := f
  unfold fval
  simp only
  have hba : ∀ o, Below w.heap.size w (w.alloc o) := fun o => (Below.refl _ _).alloc (Nat.le_refl _) _
  have b0 := hba (.cells #[.string ct, .int .i64 (sr : Int)] FLT)
  have h1 := h.below b0
  have B1 := hb.below b0
  have s1 := (b0.block _ (lt_of_heap hs)).trans hs
  have hr := h.room
  have hu : (0 : Int) ≤ (used s.files : Int) ∧ (used s.files : Int) ≤ 1073741824 := by have := h.used; omega
  have H1 := Lib.hid h1
  have HB1 := Lib.hid B1
  have HS1 := Lib.hid s1
  have HB0 := Lib.hid b0
  clear h hb hs hba b0 h1 B1 s1
  go_enter Try.func28, Try.ntmps28
  go_upto_region 1 with (fail)
  refine region_fix3 [7] (fun _ _ _ => .int .i64 (used s.files)) (fun _ W W' => Below W.heap.size W W') (by kernel_rfl) (by kernel_rfl) (fun _ W => ⟨W, Below.refl _ _⟩) fun g g0 hG => ?_
  have g1 : Below (g 0).heap.size (g 0) (g 1) := hG 0 (by decide)
  have d0 : DiskAt (g 0) d m s := by rw [g0]; exact H1.out.of_blocks rfl rfl
  have b0 : Boxes (g 0) db nb d n := by rw [g0]; exact HB1.out.of_blocks rfl rfl
  have s0 : (g 0).heap[sb]? = some (.cells #[.string x] 9 (0, 0)) := by rw [g0]; exact HS1.out
  have d1 := d0.below g1
  have b1 := b0.below g1
  have s1 := (g1.block _ (lt_of_heap s0)).trans s0
  have hd : ∀ k, k ≤ 1 → (g k).cell? ⟨db, 0, none⟩ = some (ptr d) := fun k hk => by
    rcases (by omega : k = 0 ∨ k = 1) with rfl | rfl
    · rw [cell_of_row _ _ _ _ _ _ b0.dbox]; rfl
    · rw [cell_of_row _ _ _ _ _ _ b1.dbox]; rfl
  have hxs : ∀ k, k ≤ 1 → (g k).cell? ⟨sb, 0, none⟩ = some (.string x) := fun k hk => by
    rcases (by omega : k = 0 ∨ k = 1) with rfl | rfl
    · rw [cell_of_row _ _ _ _ _ _ s0]; rfl
    · rw [cell_of_row _ _ _ _ _ _ s1]; rfl
  have hrm : ∀ k, k ≤ 1 → (g k).cell? ⟨d, 1, none⟩ = some (.int .i64 s.room) := fun k hk => by
    rcases (by omega : k = 0 ∨ k = 1) with rfl | rfl
    · rw [cell_of_row _ _ _ _ _ _ d0.cell]; rfl
    · rw [cell_of_row _ _ _ _ _ _ d1.cell]; rfl
  have HU := Lib.hid (D_used d0)
  have HD := Lib.hid hd
  have HX := Lib.hid hxs
  have HR := Lib.hid hrm
  have G0 := Lib.hid g0
  have G1 := Lib.hid g1
  clear hG g0 g1 d0 b0 s0 d1 b1 s1 hd hxs hrm
  obtain ⟨u, hue⟩ : ∃ u : Int, (used s.files : Int) = u := ⟨_, rfl⟩
  rw [hue] at hu HU
  have HUE := Lib.hid hue
  simp only [hue]
  clear hue
  have hsub : IntKind.i64.wrap (s.room - u) = s.room - u := IntWalk.i64_in _ (by omega)
  refine fix3_mid ?_ 0 1 (by kernel_rfl) rfl (fun J s hl hs hJ => ?_) ?_
  rotate_left
  · have hc := HX.out s hs
    go_simp
    exact hJ _ rfl
  intro J hJ
  go_simp
  refine hJ _ ?_
  clear hJ J
  refine fix3_step ?_ (by kernel_rfl) rfl (fun J s _ _ hJ => ?_) ?_
  rotate_left
  · go_simp
    exact hJ _ rfl
  intro J hJ
  go_simp
  refine hJ _ ?_
  clear hJ J
  refine fix3_mid ?_ 0 1 (by kernel_rfl) rfl (fun J s hl hs hJ => ?_) ?_
  rotate_left
  · have hc := HD.out s hs
    go_simp
    exact hJ _ rfl
  intro J hJ
  go_simp
  refine hJ _ ?_
  clear hJ J
  refine fix3_step ?_ (by kernel_rfl) rfl (fun J s _ _ hJ => ?_) ?_
  rotate_left
  · go_simp
    exact hJ _ rfl
  intro J hJ
  go_simp
  refine hJ _ ?_
  clear hJ J
  refine fix3_step ?_ (by kernel_rfl) rfl (fun J s _ _ hJ => ?_) ?_
  rotate_left
  · go_simp
    exact hJ _ rfl
  intro J hJ
  go_simp
  refine hJ _ ?_
  clear hJ J
  refine fix3_mid ?_ 0 1 (by kernel_rfl) rfl (fun J s hl hs hJ => ?_) ?_
  rotate_left
  · have hc := HR.out s hs
    go_simp
    exact hJ _ rfl
  intro J hJ
  go_simp
  refine hJ _ ?_
  clear hJ J
  refine fix3_mid ?_ 0 1 (by kernel_rfl) rfl (fun J s hl hs hJ => ?_) ?_
  rotate_left
  · have hc := HD.out s hs
    go_simp
    exact hJ _ rfl
  intro J hJ
  go_simp
  refine hJ _ ?_
  clear hJ J
  refine fix3_eff 0 (.int .i64 u) (rfl) (by kernel_rfl) rfl (fun J hJ => ?_) ?_
  · go_simp
    (go_at_call 10; (with_reducible refine HU.out.mono ?_); rintro e w1 ⟨rfl, h1⟩; exact hJ _ h1)
  intro J hJ
  go_simp
  refine hJ _ ?_
  clear hJ J
  refine fix3_step ?_ (by kernel_rfl) rfl (fun J s _ _ hJ => ?_) ?_
  rotate_left
  · go_simp
    exact hJ _ rfl
  intro J hJ
  go_simp
  refine hJ _ ?_
  clear hJ J
  refine fix3_step ?_ (by kernel_rfl) rfl (fun J s _ _ hJ => ?_) ?_
  rotate_left
  · go_simp
    exact hJ _ rfl
  intro J hJ
  go_simp
  refine hJ _ ?_
  clear hJ J
  refine fix3_nil ?_
  have hg1 : g [7].length = g 1 := rfl
  rw [hg1]
  have hbel : Below w.heap.size w (g 1) := HB0.out.trans ((show Below w.heap.size (w.alloc (.cells #[.string ct, .int .i64 (sr : Int)] FLT)) (g 0) from by rw [G0.out]; exact (Below.refl _ _).drew).trans (G1.out.mono (by rw [G0.out]; simp)))
  have HBEL := Lib.hid hbel
  clear hbel hsub
  by_cases hq : s.room - u < (x.size : Int)
  · have hm : mayApp s x = 5 := by unfold mayApp; rw [HUE.out, if_pos hq]
    have HM := Lib.hid hm
    clear hm
    go_wp2
    go_ret
    exact ⟨by rw [HM.out]; rfl, HBEL.out⟩
  · have hm : mayApp s x = 0 := by unfold mayApp; rw [HUE.out, if_neg hq]
    have HM := Lib.hid hm
    clear hm
    go_wp2
    go_ret
    exact ⟨by rw [HM.out]; rfl, HBEL.out⟩
set_option maxHeartbeats 4000000 in
set_option maxRecDepth 100000 in
theorem D_app2 {w : World} {d m db nb sb : Nat} {s : Dst} {n x : ByteArray} (h : DiskAt w d m s) (hb : Boxes w db nb d n) (hs : w.heap[sb]? = some (.cells #[.string x] 9 (0, 0))) (f : ByteArray × Nat) (hf : f.2 ≤ f.1.size) (hu : (used (fput s.files n (f.1 ++ x, f.2)) : Int) ≤ s.room) :
    Calls Try.prog 29 #[fval f, ptr sb, ptr db, ptr nb] w fun e w' => e = .returned (.tuple #[]) ∧ DiskAt w' d m { s with files := fput s.files n (f.1 ++ x, f.2) } ∧ Touch [m] w w' := by
  obtain ⟨ct, sr⟩ := f
  unfold fval
  simp only at hf hu ⊢
  have b0 : Below w.heap.size w (w.alloc (.cells #[.string ct, .int .i64 (sr : Int)] FLT)) := (Below.refl _ _).alloc (Nat.le_refl _) _
  have h1 := h.below b0
  have B1 := hb.below b0
  have s1 := (b0.block _ (lt_of_heap hs)).trans hs
  have hbx : (w.alloc (.cells #[.string ct, .int .i64 (sr : Int)] FLT)).heap[w.heap.size]? = some (.cells #[.string ct, .int .i64 (sr : Int)] FLT (0, 0)) := push_new rfl
  have hsz : ¬ 9223372036854775807 < ct.size + x.size := by
    have h0 : ffind (fput s.files n (ct ++ x, sr)) n = some (ct ++ x, sr) := by rw [ffind_put, if_pos rfl]
    have := used_mem (ffind_mem h0)
    simp only [ByteArray.size_append] at this
    have := h.room.2
    omega
  obtain ⟨o, hmu, hD⟩ := disk_put (h1.of_blocks (w' := (w.alloc (.cells #[.string ct, .int .i64 (sr : Int)] FLT)).drew) rfl rfl) n (ct ++ x, sr) (by simp; omega) hu
  have H1 := Lib.hid h1
  have HB1 := Lib.hid B1
  have HS1 := Lib.hid s1
  have HB0 := Lib.hid b0
  have HBX := Lib.hid hbx
  have HMU := Lib.hid hmu
  have HDD := Lib.hid hD
  clear h hb hs b0 h1 B1 s1 hbx hmu hD hf hu
  go_enter Try.func29, Try.ntmps29
  go_upto_region 1 with (fail)
  refine region_fix3 [12] (fun _ _ _ => undef) (fun _ W W' => W' = { W with heap := W.heap.setIfInBounds m o }) (by kernel_rfl) (by kernel_rfl) (fun _ W => ⟨_, rfl⟩) fun g g0 hG => ?_
  have e0 : g 1 = { g 0 with heap := (g 0).heap.setIfInBounds m o } := hG 0 (by decide)
  have d0 : DiskAt (g 0) d m s := by rw [g0]; exact H1.out.of_blocks rfl rfl
  have b0 : Boxes (g 0) db nb d n := by rw [g0]; exact HB1.out.of_blocks rfl rfl
  have s0 : (g 0).heap[sb]? = some (.cells #[.string x] 9 (0, 0)) := by rw [g0]; exact HS1.out
  have f0 : (g 0).heap[w.heap.size]? = some (.cells #[.string ct, .int .i64 (sr : Int)] FLT (0, 0)) := by rw [g0]; exact HBX.out
  have hmu0 : (Instr.mapUpdate DMT (.map (some m)) (.string n) (.agg #[.string (ct ++ x), .int .i64 (sr : Int)])).run Try.prog (g 0) = .ok () { g 0 with heap := (g 0).heap.setIfInBounds m o } := by rw [g0]; exact HMU.out
  have q1 := cell_of_row _ _ 0 _ _ _ b0.dbox
  have q2 := cell_of_row _ _ 0 _ _ _ b0.nbox
  have q3 := cell_of_row _ _ 0 _ _ _ s0
  have q4 := cell_of_row _ _ 0 _ _ _ f0
  have q5 := cell_of_row _ _ 1 _ _ _ f0
  have q6 := cell_of_row _ _ 0 _ _ _ d0.cell
  have Q1 := Lib.hid q1
  have Q2 := Lib.hid q2
  have Q3 := Lib.hid q3
  have Q4 := Lib.hid q4
  have Q5 := Lib.hid q5
  have Q6 := Lib.hid q6
  have G0 := Lib.hid g0
  have E0 := Lib.hid e0
  have HM := Lib.hid hmu0
  clear hG g0 e0 d0 b0 s0 f0 hmu0 q1 q2 q3 q4 q5 q6
  refine fix3_mid ?_ 0 0 (by kernel_rfl) rfl (fun J s hl hs hJ => ?_) ?_
  rotate_left
  · obtain rfl : s = 0 := (by omega); have hc := Q1.out
    go_simp
    exact hJ _ rfl
  intro J hJ
  go_simp
  refine hJ _ ?_
  clear hJ J
  refine fix3_step ?_ (by kernel_rfl) rfl (fun J s _ _ hJ => ?_) ?_
  rotate_left
  · go_simp
    exact hJ _ rfl
  intro J hJ
  go_simp
  refine hJ _ ?_
  clear hJ J
  refine fix3_step ?_ (by kernel_rfl) rfl (fun J s _ _ hJ => ?_) ?_
  rotate_left
  · go_simp
    exact hJ _ rfl
  intro J hJ
  go_simp
  refine hJ _ ?_
  clear hJ J
  refine fix3_mid ?_ 0 0 (by kernel_rfl) rfl (fun J s hl hs hJ => ?_) ?_
  rotate_left
  · obtain rfl : s = 0 := (by omega); have hc := Q6.out
    go_simp
    exact hJ _ rfl
  intro J hJ
  go_simp
  refine hJ _ ?_
  clear hJ J
  refine fix3_mid ?_ 0 0 (by kernel_rfl) rfl (fun J s hl hs hJ => ?_) ?_
  rotate_left
  · obtain rfl : s = 0 := (by omega); have hc := Q2.out
    go_simp
    exact hJ _ rfl
  intro J hJ
  go_simp
  refine hJ _ ?_
  clear hJ J
  refine fix3_step ?_ (by kernel_rfl) rfl (fun J s _ _ hJ => ?_) ?_
  rotate_left
  · go_simp
    exact hJ _ rfl
  intro J hJ
  go_simp
  refine hJ _ ?_
  clear hJ J
  refine fix3_mid ?_ 0 0 (by kernel_rfl) rfl (fun J s hl hs hJ => ?_) ?_
  rotate_left
  · obtain rfl : s = 0 := (by omega); have hc := Q4.out
    go_simp
    exact hJ _ rfl
  intro J hJ
  go_simp
  refine hJ _ ?_
  clear hJ J
  refine fix3_mid ?_ 0 0 (by kernel_rfl) rfl (fun J s hl hs hJ => ?_) ?_
  rotate_left
  · obtain rfl : s = 0 := (by omega); have hc := Q3.out
    go_simp
    exact hJ _ rfl
  intro J hJ
  go_simp
  refine hJ _ ?_
  clear hJ J
  refine fix3_step ?_ (by kernel_rfl) rfl (fun J s _ _ hJ => ?_) ?_
  rotate_left
  · go_simp
    exact hJ _ rfl
  intro J hJ
  go_simp
  refine hJ _ ?_
  clear hJ J
  refine fix3_step ?_ (by kernel_rfl) rfl (fun J s _ _ hJ => ?_) ?_
  rotate_left
  · go_simp
    exact hJ _ rfl
  intro J hJ
  go_simp
  refine hJ _ ?_
  clear hJ J
  refine fix3_mid ?_ 0 0 (by kernel_rfl) rfl (fun J s hl hs hJ => ?_) ?_
  rotate_left
  · obtain rfl : s = 0 := (by omega); have hc := Q5.out
    go_simp
    exact hJ _ rfl
  intro J hJ
  go_simp
  refine hJ _ ?_
  clear hJ J
  refine fix3_step ?_ (by kernel_rfl) rfl (fun J s _ _ hJ => ?_) ?_
  rotate_left
  · go_simp
    exact hJ _ rfl
  intro J hJ
  go_simp
  refine hJ _ ?_
  clear hJ J
  refine fix3_eff 0 (undef) (rfl) (by kernel_rfl) rfl (fun J hJ => ?_) ?_
  · (have hd := HM.out; go_simp; exact hJ _ rfl)
  intro J hJ
  go_simp
  refine hJ _ ?_
  clear hJ J
  refine fix3_nil ?_
  have hg : g [12].length = g 1 := rfl
  rw [hg]
  go_end0
  refine ⟨rfl, ?_, ?_⟩
  · rw [E0.out, G0.out]; exact HDD.out
  · rw [E0.out, G0.out]
    exact ((Touch.of_below HB0.out).drew).setBlock (.inl (by simp)) o
def appR (s : Dst) (n x : ByteArray) : Int × Dst := deedR s n false (mayApp s x) (fput s.files n ((fget s.files n).1 ++ x, (fget s.files n).2))
theorem turnR_room (s : Dst) : (turnR s).2.room = s.room ∧ (turnR s).2.files = s.files := by
  unfold turnR
  split <;> exact ⟨rfl, rfl⟩
set_option maxHeartbeats 4000000 in
set_option maxRecDepth 100000 in
theorem D_append {w : World} {d m : Nat} {s : Dst} (h : DiskAt w d m s) (hds : s.deeds ≤ 1000000000) (n x : ByteArray) :
    Calls Try.prog 9 #[ptr d, .string n, .string x] w fun e w' => e = .returned (.int .i64 (appR s n x).1) ∧ DiskAt w' d m (appR s n x).2 ∧ Touch [d, m] w w' := by
  have b3 : Below w.heap.size w (((w.alloc (.cells #[ptr d] 24)).alloc (.cells #[.string n] 9)).alloc (.cells #[.string x] 9)) := (((Below.refl _ _).alloc (Nat.le_refl _) _).alloc (by simp) _).alloc (by simp; omega) _
  have h3 := h.below b3
  have hB : Boxes (((w.alloc (.cells #[ptr d] 24)).alloc (.cells #[.string n] 9)).alloc (.cells #[.string x] 9)) w.heap.size (w.heap.size + 1) d n := ⟨(push_old (by simp; omega)).trans ((push_old (by simp)).trans (push_new rfl)), (push_old (by simp)).trans (push_new (by simp))⟩
  have hS : (((w.alloc (.cells #[ptr d] 24)).alloc (.cells #[.string n] 9)).alloc (.cells #[.string x] 9)).heap[w.heap.size + 1 + 1]? = some (.cells #[.string x] 9 (0, 0)) := push_new (by simp)
  have hlt := h.lt
  have hu : mayApp s x = 0 → (used (fput s.files n ((fget s.files n).1 ++ x, (fget s.files n).2)) : Int) ≤ s.room := fun he => by
    have := used_put' h.nodup n ((fget s.files n).1 ++ x, (fget s.files n).2)
    simp only [ByteArray.size_append] at this
    unfold mayApp at he
    by_cases hq : s.room - (used s.files : Int) < (x.size : Int)
    · rw [if_pos hq] at he; cases he
    · omega
  have hfg := (h.fget n).1
  have hD := D_deed h3 hds n false 28 29 #[ptr (w.heap.size + 1 + 1), ptr w.heap.size] #[ptr (w.heap.size + 1 + 1), ptr w.heap.size, ptr (w.heap.size + 1)] (mayApp s x) (fput s.files n ((fget s.files n).1 ++ x, (fget s.files n).2))
    (enters_of Try.func28 (by kernel_rfl) rfl) (enters_of Try.func29 (by kernel_rfl) rfl)
    (fun w1 b1 => D_app1 (h3.below b1) (hB.below b1) ((b1.block _ (lt_of_heap hS)).trans hS) _)
    (fun w2 he t2 d2 => by
      have q1 : w.heap.size ∉ [d] := by simp; omega
      have q2 : w.heap.size + 1 ∉ [d] := by simp; omega
      have q3 : w.heap.size + 1 + 1 ∉ [d] := by simp; omega
      have := D_app2 d2 (hB.touch t2 q1 q2) ((t2.block _ (lt_of_heap hS) q3).trans hS) (fget s.files n) hfg (by rw [(turnR_room s).1, (turnR_room s).2]; exact hu he)
      rw [(turnR_room s).2] at this
      exact this)
  have HD := Lib.hid hD
  have HB3 := Lib.hid b3
  clear hD b3 h h3 hB hS hu hfg hlt
  go_enter Try.func9, Try.ntmps9
  go_wp2_with fail
  go_at_call 27
  with_reducible refine HD.out.mono ?_
  rintro e w1 ⟨rfl, h1, t1⟩
  have HF := Lib.hid h1
  have HT := Lib.hid ((Touch.of_below HB3.out).trans t1)
  clear h1 t1
  go_wp2
  go_ret
  exact ⟨rfl, HF.out, HT.out⟩
end Go.Proofs.Ytakefjdckacgpaa.Cod
