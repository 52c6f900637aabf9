/- disk: Sync, Cut, Rename, Remove (printed by gen/dskp.py). -/
import Derived.Test.YtakefjdckacgpaaDskO
namespace Go.Proofs.Ytakefjdckacgpaa.Cod
open Go.RowKit
set_option maxHeartbeats 4000000 in
set_option maxRecDepth 100000 in
theorem D_always (w : World) (f : ByteArray × Nat) : Calls Try.prog 37 (#[fval f] ++ #[]) w fun e w' => e = .returned (.int .i64 0) ∧ Below w.heap.size w w' := by
  obtain ⟨ct, sr⟩ := f
  unfold fval
  show Calls Try.prog 37 #[.agg #[.string ct, .int .i64 (sr : Int)]] w _
  go_enter Try.func37, Try.ntmps37
  go_wp2
  go_ret
  exact ⟨rfl, (Below.refl _ _).alloc (Nat.le_refl _) _⟩
set_option maxHeartbeats 4000000 in
set_option maxRecDepth 100000 in
theorem D_sync1 {w : World} {d m db nb : Nat} {s : Dst} {n : ByteArray} (h : DiskAt w d m s) (hb : Boxes w db nb d n) (ct : ByteArray) (sr : Nat) (hu : (used (fput s.files n (ct, ct.size)) : Int) ≤ s.room) :
    Calls Try.prog 38 #[.agg #[.string ct, .int .i64 (sr : Int)], ptr db, ptr nb] w fun e w' => e = .returned (.tuple #[]) ∧ DiskAt w' d m { s with files := fput s.files n (ct, ct.size) } ∧ Touch [m] w w' := by
  have b0 : Below w.heap.size w (w.alloc (.cells #[.string ct, .int .i64 (sr : Int)] FLT)) := (Below.refl _ _).alloc (Nat.le_refl _) _
  have h1 := h.below b0
  have B1 := hb.below b0
  have hbx : (w.alloc (.cells #[.string ct, .int .i64 (sr : Int)] FLT)).heap[w.heap.size]? = some (.cells #[.string ct, .int .i64 (sr : Int)] FLT (0, 0)) := push_new rfl
  obtain ⟨o, hmu, hD⟩ := disk_put (h1.of_blocks (w' := (w.alloc (.cells #[.string ct, .int .i64 (sr : Int)] FLT)).drew) rfl rfl) n (ct, ct.size) (Nat.le_refl _) hu
  have H1 := Lib.hid h1
  have HB1 := Lib.hid B1
  have HB0 := Lib.hid b0
  have HBX := Lib.hid hbx
  have HMU := Lib.hid hmu
  have HDD := Lib.hid hD
  clear h hb b0 h1 B1 hbx hmu hD hu
  go_enter Try.func38, Try.ntmps38
  go_upto_region 1 with (fail)
  refine region_fix3 [11] (fun _ _ _ => undef) (fun _ W W' => W' = { W with heap := W.heap.setIfInBounds m o }) (by kernel_rfl) (by kernel_rfl) (fun _ W => ⟨_, rfl⟩) fun g g0 hG => ?_
  have e0 : g 1 = { g 0 with heap := (g 0).heap.setIfInBounds m o } := hG 0 (by decide)
  have d0 : DiskAt (g 0) d m s := by rw [g0]; exact H1.out.of_blocks rfl rfl
  have b0 : Boxes (g 0) db nb d n := by rw [g0]; exact HB1.out.of_blocks rfl rfl
  have f0 : (g 0).heap[w.heap.size]? = some (.cells #[.string ct, .int .i64 (sr : Int)] FLT (0, 0)) := by rw [g0]; exact HBX.out
  have hmu0 : (Instr.mapUpdate DMT (.map (some m)) (.string n) (.agg #[.string ct, .int .i64 (ct.size : Int)])).run Try.prog (g 0) = .ok () { g 0 with heap := (g 0).heap.setIfInBounds m o } := by rw [g0]; exact HMU.out
  have q1 := cell_of_row _ _ 0 _ _ _ b0.dbox
  have q2 := cell_of_row _ _ 0 _ _ _ b0.nbox
  have q4 := cell_of_row _ _ 0 _ _ _ f0
  have q5 := cell_of_row _ _ 1 _ _ _ f0
  have q6 := cell_of_row _ _ 0 _ _ _ d0.cell
  have Q1 := Lib.hid q1
  have Q2 := Lib.hid q2
  have Q4 := Lib.hid q4
  have Q5 := Lib.hid q5
  have Q6 := Lib.hid q6
  have G0 := Lib.hid g0
  have E0 := Lib.hid e0
  have HM := Lib.hid hmu0
  clear hG g0 e0 d0 b0 f0 hmu0 q1 q2 q4 q5 q6
  refine fix3_mid ?_ 0 0 (by kernel_rfl) rfl (fun J s hl hs hJ => ?_) ?_
  rotate_left
  · obtain rfl : s = 0 := (by omega); have hc := Q1.out
    go_simp
    exact hJ _ rfl
  intro J hJ
  go_simp
  refine hJ _ ?_
  clear hJ J
  refine fix3_step ?_ (by kernel_rfl) rfl (fun J s _ _ hJ => ?_) ?_
  rotate_left
  · go_simp
    exact hJ _ rfl
  intro J hJ
  go_simp
  refine hJ _ ?_
  clear hJ J
  refine fix3_step ?_ (by kernel_rfl) rfl (fun J s _ _ hJ => ?_) ?_
  rotate_left
  · go_simp
    exact hJ _ rfl
  intro J hJ
  go_simp
  refine hJ _ ?_
  clear hJ J
  refine fix3_mid ?_ 0 0 (by kernel_rfl) rfl (fun J s hl hs hJ => ?_) ?_
  rotate_left
  · obtain rfl : s = 0 := (by omega); have hc := Q6.out
    go_simp
    exact hJ _ rfl
  intro J hJ
  go_simp
  refine hJ _ ?_
  clear hJ J
  refine fix3_mid ?_ 0 0 (by kernel_rfl) rfl (fun J s hl hs hJ => ?_) ?_
  rotate_left
  · obtain rfl : s = 0 := (by omega); have hc := Q2.out
    go_simp
    exact hJ _ rfl
  intro J hJ
  go_simp
  refine hJ _ ?_
  clear hJ J
  refine fix3_step ?_ (by kernel_rfl) rfl (fun J s _ _ hJ => ?_) ?_
  rotate_left
  · go_simp
    exact hJ _ rfl
  intro J hJ
  go_simp
  refine hJ _ ?_
  clear hJ J
  refine fix3_mid ?_ 0 0 (by kernel_rfl) rfl (fun J s hl hs hJ => ?_) ?_
  rotate_left
  · obtain rfl : s = 0 := (by omega); have hc := Q4.out
    go_simp
    exact hJ _ rfl
  intro J hJ
  go_simp
  refine hJ _ ?_
  clear hJ J
  refine fix3_step ?_ (by kernel_rfl) rfl (fun J s _ _ hJ => ?_) ?_
  rotate_left
  · go_simp
    exact hJ _ rfl
  intro J hJ
  go_simp
  refine hJ _ ?_
  clear hJ J
  refine fix3_mid ?_ 0 0 (by kernel_rfl) rfl (fun J s hl hs hJ => ?_) ?_
  rotate_left
  · obtain rfl : s = 0 := (by omega); have hc := Q4.out
    go_simp
    exact hJ _ rfl
  intro J hJ
  go_simp
  refine hJ _ ?_
  clear hJ J
  refine fix3_step ?_ (by kernel_rfl) rfl (fun J s _ _ hJ => ?_) ?_
  rotate_left
  · go_simp
    exact hJ _ rfl
  intro J hJ
  go_simp
  refine hJ _ ?_
  clear hJ J
  refine fix3_step ?_ (by kernel_rfl) rfl (fun J s _ _ hJ => ?_) ?_
  rotate_left
  · go_simp
    exact hJ _ rfl
  intro J hJ
  go_simp
  refine hJ _ ?_
  clear hJ J
  refine fix3_eff 0 (undef) (rfl) (by kernel_rfl) rfl (fun J hJ => ?_) ?_
  · (have hd := HM.out; go_simp; exact hJ _ rfl)
  intro J hJ
  go_simp
  refine hJ _ ?_
  clear hJ J
  refine fix3_nil ?_
  have hg : g [11].length = g 1 := rfl
  rw [hg]
  go_end0
  refine ⟨rfl, ?_, ?_⟩
  · rw [E0.out, G0.out]; exact HDD.out
  · rw [E0.out, G0.out]
    exact ((Touch.of_below HB0.out).drew).setBlock (.inl (by simp)) o
set_option maxHeartbeats 4000000 in
set_option maxRecDepth 100000 in
theorem D_cut2 {w : World} {d m db nb cb : Nat} {s : Dst} {n : ByteArray} (h : DiskAt w d m s) (hb : Boxes w db nb d n) (k q : Nat) (hcb : w.heap[cb]? = some (.cells #[.int .i64 (k : Int)] 3 (0, 0))) (ct : ByteArray) (sr : Nat) (hk : k ≤ ct.size) (hq : q = min sr k) (hu : (used (fput s.files n (ct.extract 0 k, q)) : Int) ≤ s.room) :
    Calls Try.prog 43 #[.agg #[.string ct, .int .i64 (sr : Int)], ptr cb, ptr db, ptr nb] w fun e w' => e = .returned (.tuple #[]) ∧ DiskAt w' d m { s with files := fput s.files n (ct.extract 0 k, q) } ∧ Touch [m] w w' := by
  have b0 : Below w.heap.size w (w.alloc (.cells #[.string ct, .int .i64 (sr : Int)] FLT)) := (Below.refl _ _).alloc (Nat.le_refl _) _
  have h1 := h.below b0
  have B1 := hb.below b0
  have hbx : (w.alloc (.cells #[.string ct, .int .i64 (sr : Int)] FLT)).heap[w.heap.size]? = some (.cells #[.string ct, .int .i64 (sr : Int)] FLT (0, 0)) := push_new rfl
  have hk1 : (k : Int) ≤ (ct.size : Int) := by omega
  have hk0 : (0 : Int) ≤ (k : Int) := by omega
  have hmn : (if k < sr then (k : Int) else (sr : Int)) = (q : Int) := by split <;> omega
  have hcb1 := (b0.block _ (lt_of_heap hcb)).trans hcb
  have HCB1 := Lib.hid hcb1
  obtain ⟨o, hmu, hD⟩ := disk_put (h1.of_blocks (w' := (w.alloc (.cells #[.string ct, .int .i64 (sr : Int)] FLT)).drew) rfl rfl) n (ct.extract 0 k, q) (by simp; omega) hu
  clear hcb hcb1 hk hq
  have H1 := Lib.hid h1
  have HB1 := Lib.hid B1
  have HB0 := Lib.hid b0
  have HBX := Lib.hid hbx
  have HMU := Lib.hid hmu
  have HDD := Lib.hid hD
  clear h hb b0 h1 B1 hbx hmu hD hu
  go_enter Try.func43, Try.ntmps43
  go_upto_region 1 with (fail)
  refine region_fix3 [14] (fun _ _ _ => undef) (fun _ W W' => W' = { W with heap := W.heap.setIfInBounds m o }) (by kernel_rfl) (by kernel_rfl) (fun _ W => ⟨_, rfl⟩) fun g g0 hG => ?_
  have e0 : g 1 = { g 0 with heap := (g 0).heap.setIfInBounds m o } := hG 0 (by decide)
  have d0 : DiskAt (g 0) d m s := by rw [g0]; exact H1.out.of_blocks rfl rfl
  have b0 : Boxes (g 0) db nb d n := by rw [g0]; exact HB1.out.of_blocks rfl rfl
  have f0 : (g 0).heap[w.heap.size]? = some (.cells #[.string ct, .int .i64 (sr : Int)] FLT (0, 0)) := by rw [g0]; exact HBX.out
  have hmu0 : (Instr.mapUpdate DMT (.map (some m)) (.string n) (.agg #[.string (ct.extract 0 k), .int .i64 (q : Int)])).run Try.prog (g 0) = .ok () { g 0 with heap := (g 0).heap.setIfInBounds m o } := by rw [g0]; exact HMU.out
  have q1 := cell_of_row _ _ 0 _ _ _ b0.dbox
  have q2 := cell_of_row _ _ 0 _ _ _ b0.nbox
  have q4 := cell_of_row _ _ 0 _ _ _ f0
  have q5 := cell_of_row _ _ 1 _ _ _ f0
  have q6 := cell_of_row _ _ 0 _ _ _ d0.cell
  have cb0 : (g 0).heap[cb]? = some (.cells #[.int .i64 (k : Int)] 3 (0, 0)) := by rw [g0]; exact HCB1.out
  have q7 := cell_of_row _ _ 0 _ _ _ cb0
  have Q7 := Lib.hid q7
  clear q7 cb0
  have Q1 := Lib.hid q1
  have Q2 := Lib.hid q2
  have Q4 := Lib.hid q4
  have Q5 := Lib.hid q5
  have Q6 := Lib.hid q6
  have G0 := Lib.hid g0
  have E0 := Lib.hid e0
  have HM := Lib.hid hmu0
  clear hG g0 e0 d0 b0 f0 hmu0 q1 q2 q4 q5 q6
  refine fix3_mid ?_ 0 0 (by kernel_rfl) rfl (fun J s hl hs hJ => ?_) ?_
  rotate_left
  · obtain rfl : s = 0 := (by omega); have hc := Q1.out
    go_simp
    exact hJ _ rfl
  intro J hJ
  go_simp
  refine hJ _ ?_
  clear hJ J
  refine fix3_step ?_ (by kernel_rfl) rfl (fun J s _ _ hJ => ?_) ?_
  rotate_left
  · go_simp
    exact hJ _ rfl
  intro J hJ
  go_simp
  refine hJ _ ?_
  clear hJ J
  refine fix3_step ?_ (by kernel_rfl) rfl (fun J s _ _ hJ => ?_) ?_
  rotate_left
  · go_simp
    exact hJ _ rfl
  intro J hJ
  go_simp
  refine hJ _ ?_
  clear hJ J
  refine fix3_mid ?_ 0 0 (by kernel_rfl) rfl (fun J s hl hs hJ => ?_) ?_
  rotate_left
  · obtain rfl : s = 0 := (by omega); have hc := Q6.out
    go_simp
    exact hJ _ rfl
  intro J hJ
  go_simp
  refine hJ _ ?_
  clear hJ J
  refine fix3_mid ?_ 0 0 (by kernel_rfl) rfl (fun J s hl hs hJ => ?_) ?_
  rotate_left
  · obtain rfl : s = 0 := (by omega); have hc := Q2.out
    go_simp
    exact hJ _ rfl
  intro J hJ
  go_simp
  refine hJ _ ?_
  clear hJ J
  refine fix3_step ?_ (by kernel_rfl) rfl (fun J s _ _ hJ => ?_) ?_
  rotate_left
  · go_simp
    exact hJ _ rfl
  intro J hJ
  go_simp
  refine hJ _ ?_
  clear hJ J
  refine fix3_mid ?_ 0 0 (by kernel_rfl) rfl (fun J s hl hs hJ => ?_) ?_
  rotate_left
  · obtain rfl : s = 0 := (by omega); have hc := Q4.out
    go_simp
    exact hJ _ rfl
  intro J hJ
  go_simp
  refine hJ _ ?_
  clear hJ J
  refine fix3_mid ?_ 0 0 (by kernel_rfl) rfl (fun J s hl hs hJ => ?_) ?_
  rotate_left
  · obtain rfl : s = 0 := (by omega); have hc := Q7.out
    go_simp
    exact hJ _ rfl
  intro J hJ
  go_simp
  refine hJ _ ?_
  clear hJ J
  refine fix3_step ?_ (by kernel_rfl) rfl (fun J s _ _ hJ => ?_) ?_
  rotate_left
  · go_simp
    exact hJ _ rfl
  intro J hJ
  go_simp
  refine hJ _ ?_
  clear hJ J
  refine fix3_step ?_ (by kernel_rfl) rfl (fun J s _ _ hJ => ?_) ?_
  rotate_left
  · go_simp
    exact hJ _ rfl
  intro J hJ
  go_simp
  refine hJ _ ?_
  clear hJ J
  refine fix3_mid ?_ 0 0 (by kernel_rfl) rfl (fun J s hl hs hJ => ?_) ?_
  rotate_left
  · obtain rfl : s = 0 := (by omega); have hc := Q5.out
    go_simp
    exact hJ _ rfl
  intro J hJ
  go_simp
  refine hJ _ ?_
  clear hJ J
  refine fix3_mid ?_ 0 0 (by kernel_rfl) rfl (fun J s hl hs hJ => ?_) ?_
  rotate_left
  · obtain rfl : s = 0 := (by omega); have hc := Q7.out
    go_simp
    exact hJ _ rfl
  intro J hJ
  go_simp
  refine hJ _ ?_
  clear hJ J
  refine fix3_step ?_ (by kernel_rfl) rfl (fun J s _ _ hJ => ?_) ?_
  rotate_left
  · go_simp
    exact hJ _ rfl
  intro J hJ
  go_simp
  refine hJ _ ?_
  clear hJ J
  refine fix3_step ?_ (by kernel_rfl) rfl (fun J s _ _ hJ => ?_) ?_
  rotate_left
  · go_simp
    exact hJ _ rfl
  intro J hJ
  go_simp
  refine hJ _ ?_
  clear hJ J
  refine fix3_eff 0 (undef) (rfl) (by kernel_rfl) rfl (fun J hJ => ?_) ?_
  · (have hd := HM.out; go_simp; exact hJ _ rfl)
  intro J hJ
  go_simp
  refine hJ _ ?_
  clear hJ J
  refine fix3_nil ?_
  have hg : g [14].length = g 1 := rfl
  rw [hg]
  go_end0
  refine ⟨rfl, ?_, ?_⟩
  · rw [E0.out, G0.out]; exact HDD.out
  · rw [E0.out, G0.out]
    exact ((Touch.of_below HB0.out).drew).setBlock (.inl (by simp)) o
set_option maxHeartbeats 4000000 in
set_option maxRecDepth 100000 in
theorem D_rem1 {w : World} {d m db nb : Nat} {s : Dst} {n : ByteArray} (h : DiskAt w d m s) (hb : Boxes w db nb d n) (ct : ByteArray) (sr : Nat) :
    Calls Try.prog 45 #[.agg #[.string ct, .int .i64 (sr : Int)], ptr db, ptr nb] w fun e w' => e = .returned (.tuple #[]) ∧ DiskAt w' d m { s with files := fdel s.files n } ∧ Touch [m] w w' := by
  have b0 : Below w.heap.size w (w.alloc (.cells #[.string ct, .int .i64 (sr : Int)] FLT)) := (Below.refl _ _).alloc (Nat.le_refl _) _
  have h1 := h.below b0
  have B1 := hb.below b0
  obtain ⟨o, hmu, hD⟩ := disk_del (h1.of_blocks (w' := (w.alloc (.cells #[.string ct, .int .i64 (sr : Int)] FLT)).drew) rfl rfl) n
  have H1 := Lib.hid h1
  have HB1 := Lib.hid B1
  have HB0 := Lib.hid b0
  have HMU := Lib.hid hmu
  have HDD := Lib.hid hD
  clear h hb b0 h1 B1 hmu hD
  go_enter Try.func45, Try.ntmps45
  go_upto_region 1 with (fail)
  refine region_fix3 [5] (fun _ _ _ => .tuple #[]) (fun _ W W' => W' = { W with heap := W.heap.setIfInBounds m o }) (by kernel_rfl) (by kernel_rfl) (fun _ W => ⟨_, rfl⟩) fun g g0 hG => ?_
  have e0 : g 1 = { g 0 with heap := (g 0).heap.setIfInBounds m o } := hG 0 (by decide)
  have d0 : DiskAt (g 0) d m s := by rw [g0]; exact H1.out.of_blocks rfl rfl
  have b0 : Boxes (g 0) db nb d n := by rw [g0]; exact HB1.out.of_blocks rfl rfl
  have hmu0 : (Builtin.delete_ #[DMT, 9] 0 #[.map (some m), .string n]).run Try.prog (g 0) = .ok (.tuple #[]) { g 0 with heap := (g 0).heap.setIfInBounds m o } := by rw [g0]; exact HMU.out
  have q1 := cell_of_row _ _ 0 _ _ _ b0.dbox
  have q2 := cell_of_row _ _ 0 _ _ _ b0.nbox
  have q6 := cell_of_row _ _ 0 _ _ _ d0.cell
  have Q1 := Lib.hid q1
  have Q2 := Lib.hid q2
  have Q6 := Lib.hid q6
  have G0 := Lib.hid g0
  have E0 := Lib.hid e0
  have HM := Lib.hid hmu0
  clear hG g0 e0 d0 b0 hmu0 q1 q2 q6
  refine fix3_mid ?_ 0 0 (by kernel_rfl) rfl (fun J s hl hs hJ => ?_) ?_
  rotate_left
  · obtain rfl : s = 0 := (by omega); have hc := Q1.out
    go_simp
    exact hJ _ rfl
  intro J hJ
  go_simp
  refine hJ _ ?_
  clear hJ J
  refine fix3_step ?_ (by kernel_rfl) rfl (fun J s _ _ hJ => ?_) ?_
  rotate_left
  · go_simp
    exact hJ _ rfl
  intro J hJ
  go_simp
  refine hJ _ ?_
  clear hJ J
  refine fix3_step ?_ (by kernel_rfl) rfl (fun J s _ _ hJ => ?_) ?_
  rotate_left
  · go_simp
    exact hJ _ rfl
  intro J hJ
  go_simp
  refine hJ _ ?_
  clear hJ J
  refine fix3_mid ?_ 0 0 (by kernel_rfl) rfl (fun J s hl hs hJ => ?_) ?_
  rotate_left
  · obtain rfl : s = 0 := (by omega); have hc := Q6.out
    go_simp
    exact hJ _ rfl
  intro J hJ
  go_simp
  refine hJ _ ?_
  clear hJ J
  refine fix3_mid ?_ 0 0 (by kernel_rfl) rfl (fun J s hl hs hJ => ?_) ?_
  rotate_left
  · obtain rfl : s = 0 := (by omega); have hc := Q2.out
    go_simp
    exact hJ _ rfl
  intro J hJ
  go_simp
  refine hJ _ ?_
  clear hJ J
  refine fix3_eff 0 (.tuple #[]) (rfl) (by kernel_rfl) rfl (fun J hJ => ?_) ?_
  · (have hd := HM.out; go_simp; exact hJ _ rfl)
  intro J hJ
  go_simp
  refine hJ _ ?_
  clear hJ J
  refine fix3_nil ?_
  have hg : g [5].length = g 1 := rfl
  rw [hg]
  go_end0
  refine ⟨rfl, ?_, ?_⟩
  · rw [E0.out, G0.out]; exact HDD.out
  · rw [E0.out, G0.out]
    exact ((Touch.of_below HB0.out).drew).setBlock (.inl (by simp)) o
set_option maxHeartbeats 4000000 in
set_option maxRecDepth 100000 in
theorem D_ren1 {w : World} {d m db nb tb : Nat} {s : Dst} {n to : ByteArray} (h : DiskAt w d m s) (hb : Boxes w db nb d n) (htb : w.heap[tb]? = some (.cells #[.string to] 9 (0, 0))) (ct : ByteArray) (sr : Nat) (hsr : sr ≤ ct.size) (hu : (used (fput (fdel s.files n) to (ct, sr)) : Int) ≤ s.room) :
    Calls Try.prog 44 #[.agg #[.string ct, .int .i64 (sr : Int)], ptr db, ptr nb, ptr tb] w fun e w' => e = .returned (.tuple #[]) ∧ DiskAt w' d m { s with files := fput (fdel s.files n) to (ct, sr) } ∧ Touch [m] w w' := by
  have b0 : Below w.heap.size w (w.alloc (.cells #[.string ct, .int .i64 (sr : Int)] FLT)) := (Below.refl _ _).alloc (Nat.le_refl _) _
  have h1 := h.below b0
  have B1 := hb.below b0
  have t1 := (b0.block _ (lt_of_heap htb)).trans htb
  have hbx : (w.alloc (.cells #[.string ct, .int .i64 (sr : Int)] FLT)).heap[w.heap.size]? = some (.cells #[.string ct, .int .i64 (sr : Int)] FLT (0, 0)) := push_new rfl
  have hmne : ∀ (b : Nat) cs t, w.heap[b]? = some (.cells cs t (0, 0)) → b ≠ m := fun b cs t hbb e => by
    obtain ⟨es, c, h0, _⟩ := h.map
    rw [e, h0] at hbb
    cases hbb
  have n1 := hmne _ _ _ hb.dbox
  have n3 := hmne _ _ _ htb
  have n4 : w.heap.size ≠ m := fun e => by have := h.lt.2.1; omega
  obtain ⟨o, hmu, hD⟩ := disk_del (h1.of_blocks (w' := (w.alloc (.cells #[.string ct, .int .i64 (sr : Int)] FLT)).drew) rfl rfl) n
  have H1 := Lib.hid h1
  have HB1 := Lib.hid B1
  have HB0 := Lib.hid b0
  have HT1 := Lib.hid t1
  have HBX := Lib.hid hbx
  have HMU := Lib.hid hmu
  have HDD := Lib.hid hD
  have HU := Lib.hid hu
  clear h hb b0 h1 B1 hmu hD htb t1 hbx hmne hu
  go_enter Try.func44, Try.ntmps44
  go_upto_region 1 with (fail)
  refine region_fix3 [5] (fun _ _ _ => .tuple #[]) (fun _ W W' => W' = { W with heap := W.heap.setIfInBounds m o }) (by kernel_rfl) (by kernel_rfl) (fun _ W => ⟨_, rfl⟩) fun g g0 hG => ?_
  have e0 : g 1 = { g 0 with heap := (g 0).heap.setIfInBounds m o } := hG 0 (by decide)
  have d0 : DiskAt (g 0) d m s := by rw [g0]; exact H1.out.of_blocks rfl rfl
  have b0 : Boxes (g 0) db nb d n := by rw [g0]; exact HB1.out.of_blocks rfl rfl
  have hmu0 : (Builtin.delete_ #[DMT, 9] 0 #[.map (some m), .string n]).run Try.prog (g 0) = .ok (.tuple #[]) { g 0 with heap := (g 0).heap.setIfInBounds m o } := by rw [g0]; exact HMU.out
  have q1 := cell_of_row _ _ 0 _ _ _ b0.dbox
  have q2 := cell_of_row _ _ 0 _ _ _ b0.nbox
  have q6 := cell_of_row _ _ 0 _ _ _ d0.cell
  have Q1 := Lib.hid q1
  have Q2 := Lib.hid q2
  have Q6 := Lib.hid q6
  have G0 := Lib.hid g0
  have E0 := Lib.hid e0
  have HM := Lib.hid hmu0
  clear hG g0 e0 d0 b0 hmu0 q1 q2 q6
  refine fix3_mid ?_ 0 0 (by kernel_rfl) rfl (fun J s hl hs hJ => ?_) ?_
  rotate_left
  · obtain rfl : s = 0 := (by omega); have hc := Q1.out
    go_simp
    exact hJ _ rfl
  intro J hJ
  go_simp
  refine hJ _ ?_
  clear hJ J
  refine fix3_step ?_ (by kernel_rfl) rfl (fun J s _ _ hJ => ?_) ?_
  rotate_left
  · go_simp
    exact hJ _ rfl
  intro J hJ
  go_simp
  refine hJ _ ?_
  clear hJ J
  refine fix3_step ?_ (by kernel_rfl) rfl (fun J s _ _ hJ => ?_) ?_
  rotate_left
  · go_simp
    exact hJ _ rfl
  intro J hJ
  go_simp
  refine hJ _ ?_
  clear hJ J
  refine fix3_mid ?_ 0 0 (by kernel_rfl) rfl (fun J s hl hs hJ => ?_) ?_
  rotate_left
  · obtain rfl : s = 0 := (by omega); have hc := Q6.out
    go_simp
    exact hJ _ rfl
  intro J hJ
  go_simp
  refine hJ _ ?_
  clear hJ J
  refine fix3_mid ?_ 0 0 (by kernel_rfl) rfl (fun J s hl hs hJ => ?_) ?_
  rotate_left
  · obtain rfl : s = 0 := (by omega); have hc := Q2.out
    go_simp
    exact hJ _ rfl
  intro J hJ
  go_simp
  refine hJ _ ?_
  clear hJ J
  refine fix3_eff 0 (.tuple #[]) (rfl) (by kernel_rfl) rfl (fun J hJ => ?_) ?_
  · (have hd := HM.out; go_simp; exact hJ _ rfl)
  intro J hJ
  go_simp
  refine hJ _ ?_
  clear hJ J
  refine fix3_nil ?_
  have hg : g [5].length = g 1 := rfl
  rw [hg]
  have hD1 : DiskAt (g 1) d m { s with files := fdel s.files n } := by rw [E0.out, G0.out]; exact HDD.out
  have oth : ∀ b, b ≠ m → (g 1).heap[b]? = (w.alloc (.cells #[.string ct, .int .i64 (sr : Int)] FLT)).heap[b]? := fun b hb => by
    rw [E0.out, G0.out]
    exact Array.getElem?_setIfInBounds_ne (fun e => hb e.symm)
  have r1 := (oth _ n1).trans HB1.out.dbox
  have r3 := (oth _ n3).trans HT1.out
  have r4 := (oth _ n4).trans HBX.out
  have ht : Touch [m] w (g 1) := by
    rw [E0.out, G0.out]
    exact ((Touch.of_below HB0.out).drew).setBlock (.inl (by simp)) o
  obtain ⟨o2, hmu2, hD2⟩ := disk_put (hD1.of_blocks (w' := (g 1).drew) rfl rfl) to (ct, sr) hsr HU.out
  have HD1 := Lib.hid hD1
  have R1 := Lib.hid r1
  have R3 := Lib.hid r3
  have R4 := Lib.hid r4
  have HTT := Lib.hid ht
  have HMU2 := Lib.hid hmu2
  have HDD2 := Lib.hid hD2
  clear hD1 oth r1 r3 r4 ht hmu2 hD2 hg E0 G0 HM Q1 Q2 Q6
  generalize g 1 = w1 at *
  go_upto_region 2 with (fail)
  refine region_fix3 [6] (fun _ _ _ => undef) (fun _ W W' => W' = { W with heap := W.heap.setIfInBounds m o2 }) (by kernel_rfl) (by kernel_rfl) (fun _ W => ⟨_, rfl⟩) fun f f0 hF => ?_
  have e0 : f 1 = { f 0 with heap := (f 0).heap.setIfInBounds m o2 } := hF 0 (by decide)
  have hmu0 : (Instr.mapUpdate DMT (.map (some m)) (.string to) (.agg #[.string ct, .int .i64 (sr : Int)])).run Try.prog (f 0) = .ok () { f 0 with heap := (f 0).heap.setIfInBounds m o2 } := by rw [f0]; exact HMU2.out
  have q1 : (f 0).cell? ⟨db, 0, none⟩ = some (ptr d) := by rw [f0, show w1.drew.cell? ⟨db, 0, none⟩ = w1.cell? ⟨db, 0, none⟩ from rfl, cell_of_row _ _ _ _ _ _ R1.out]; rfl
  have q3 : (f 0).cell? ⟨tb, 0, none⟩ = some (.string to) := by rw [f0, show w1.drew.cell? ⟨tb, 0, none⟩ = w1.cell? ⟨tb, 0, none⟩ from rfl, cell_of_row _ _ _ _ _ _ R3.out]; rfl
  have q4 : (f 0).cell? ⟨w.heap.size, 0, none⟩ = some (.string ct) := by rw [f0, show w1.drew.cell? ⟨w.heap.size, 0, none⟩ = w1.cell? ⟨w.heap.size, 0, none⟩ from rfl, cell_of_row _ _ _ _ _ _ R4.out]; rfl
  have q5 : (f 0).cell? ⟨w.heap.size, 1, none⟩ = some (.int .i64 (sr : Int)) := by rw [f0, show w1.drew.cell? ⟨w.heap.size, 1, none⟩ = w1.cell? ⟨w.heap.size, 1, none⟩ from rfl, cell_of_row _ _ _ _ _ _ R4.out]; rfl
  have q6 : (f 0).cell? ⟨d, 0, none⟩ = some (.map (some m)) := by rw [f0, show w1.drew.cell? ⟨d, 0, none⟩ = w1.cell? ⟨d, 0, none⟩ from rfl, cell_of_row _ _ _ _ _ _ HD1.out.cell]; rfl
  have Q1 := Lib.hid q1
  have Q3 := Lib.hid q3
  have Q45 := Lib.hid (And.intro q4 q5)
  have Q6 := Lib.hid q6
  have F0 := Lib.hid f0
  have E0 := Lib.hid e0
  have HM := Lib.hid hmu0
  clear hF f0 e0 hmu0 q1 q3 q4 q5 q6
  refine fix3_mid ?_ 0 0 (by kernel_rfl) rfl (fun J s hl hs hJ => ?_) ?_
  rotate_left
  · obtain rfl : s = 0 := (by omega); have hc := Q1.out
    go_simp
    exact hJ _ rfl
  intro J hJ
  go_simp
  refine hJ _ ?_
  clear hJ J
  refine fix3_step ?_ (by kernel_rfl) rfl (fun J s _ _ hJ => ?_) ?_
  rotate_left
  · go_simp
    exact hJ _ rfl
  intro J hJ
  go_simp
  refine hJ _ ?_
  clear hJ J
  refine fix3_step ?_ (by kernel_rfl) rfl (fun J s _ _ hJ => ?_) ?_
  rotate_left
  · go_simp
    exact hJ _ rfl
  intro J hJ
  go_simp
  refine hJ _ ?_
  clear hJ J
  refine fix3_mid ?_ 0 0 (by kernel_rfl) rfl (fun J s hl hs hJ => ?_) ?_
  rotate_left
  · obtain rfl : s = 0 := (by omega); have hc := Q6.out
    go_simp
    exact hJ _ rfl
  intro J hJ
  go_simp
  refine hJ _ ?_
  clear hJ J
  refine fix3_mid ?_ 0 0 (by kernel_rfl) rfl (fun J s hl hs hJ => ?_) ?_
  rotate_left
  · obtain rfl : s = 0 := (by omega); have hc := Q3.out
    go_simp
    exact hJ _ rfl
  intro J hJ
  go_simp
  refine hJ _ ?_
  clear hJ J
  refine fix3_mid ?_ 0 0 (by kernel_rfl) rfl (fun J s hl hs hJ => ?_) ?_
  rotate_left
  · obtain rfl : s = 0 := (by omega); have hc := Q45.out.1; have hc2 := Q45.out.2
    go_simp
    exact hJ _ rfl
  intro J hJ
  go_simp
  refine hJ _ ?_
  clear hJ J
  refine fix3_eff 0 (undef) (rfl) (by kernel_rfl) rfl (fun J hJ => ?_) ?_
  · (have hd := HM.out; go_simp; exact hJ _ rfl)
  intro J hJ
  go_simp
  refine hJ _ ?_
  clear hJ J
  refine fix3_nil ?_
  have hg : f [6].length = f 1 := rfl
  rw [hg]
  go_end0
  refine ⟨rfl, ?_, ?_⟩
  · rw [E0.out, F0.out]; exact HDD2.out
  · rw [E0.out, F0.out]
    exact (HTT.out.drew).setBlock (.inl (by simp)) o2
set_option maxHeartbeats 4000000 in
set_option maxRecDepth 100000 in
theorem D_cut1 {w : World} {cb : Nat} {c : Int} (hcb : w.heap[cb]? = some (.cells #[.int .i64 c] 3 (0, 0))) (f : ByteArray × Nat) :
    Calls Try.prog 42 (#[fval f] ++ #[ptr cb]) w fun e w' => e = .returned (.int .i64 (if c < 0 ∨ (f.1.size : Int) < c then 1 else 0)) ∧ Below w.heap.size w w' := by
  obtain ⟨ct, sr⟩ := f
  unfold fval
  show Calls Try.prog 42 #[.agg #[.string ct, .int .i64 (sr : Int)], ptr cb] w _
  have hlt := lt_of_heap hcb
  have q := cell_of_row _ _ 0 _ _ _ hcb
  simp only
  clear hcb
  by_cases h1 : c < 0
  · rw [if_pos (.inl h1)]
    go_enter Try.func42, Try.ntmps42
    go_wp2
    go_ret
    exact ⟨rfl, (Below.refl _ _).alloc (Nat.le_refl _) _⟩
  · have h1' : 0 ≤ c := by omega
    by_cases h2 : (ct.size : Int) < c
    · rw [if_pos (.inr h2)]
      go_enter Try.func42, Try.ntmps42
      go_wp2
      go_ret
      exact ⟨rfl, (Below.refl _ _).alloc (Nat.le_refl _) _⟩
    · rw [if_neg (by omega)]
      go_enter Try.func42, Try.ntmps42
      go_wp2
      go_ret
      exact ⟨rfl, (Below.refl _ _).alloc (Nat.le_refl _) _⟩
def syncR (s : Dst) (n : ByteArray) : Int × Dst := deedR s n true 0 (fput s.files n ((fget s.files n).1, (fget s.files n).1.size))
def cutR (s : Dst) (n : ByteArray) (c : Int) : Int × Dst := deedR s n true (if c < 0 ∨ ((fget s.files n).1.size : Int) < c then 1 else 0) (fput s.files n ((fget s.files n).1.extract 0 c.toNat, min (fget s.files n).2 c.toNat))
def renR (s : Dst) (n to : ByteArray) : Int × Dst := deedR s n true 0 (fput (fdel s.files n) to (fget s.files n))
def remR (s : Dst) (n : ByteArray) : Int × Dst := deedR s n true 0 (fdel s.files n)
theorem fval_agg (f : ByteArray × Nat) (cs : Array Value) : (#[fval f] ++ cs) = #[.agg #[.string f.1, .int .i64 (f.2 : Int)]] ++ cs := rfl
set_option maxHeartbeats 4000000 in
set_option maxRecDepth 100000 in
theorem D_sync {w : World} {d m : Nat} {s : Dst} (h : DiskAt w d m s) (hds : s.deeds ≤ 1000000000) (n : ByteArray) :
    Calls Try.prog 25 #[ptr d, .string n] w fun e w' => e = .returned (.int .i64 (syncR s n).1) ∧ DiskAt w' d m (syncR s n).2 ∧ Touch [d, m] w w' := by
  have b3 : Below w.heap.size w ((w.alloc (.cells #[ptr d] 24)).alloc (.cells #[.string n] 9)) := (((Below.refl _ _).alloc (Nat.le_refl _) _).alloc (by simp) _)
  have h3 := h.below b3
  have hB : Boxes ((w.alloc (.cells #[ptr d] 24)).alloc (.cells #[.string n] 9)) w.heap.size (w.heap.size + 1) d n := ⟨(push_old (by simp)).trans (push_new rfl), push_new (by simp)⟩
  have hlt := h.lt
  have hfg := (h.fget n).1
  have q1 : w.heap.size ∉ [d] := by simp; omega
  have q2 : w.heap.size + 1 ∉ [d] := by simp; omega
  have hu : (used (fput s.files n ((fget s.files n).1, (fget s.files n).1.size)) : Int) ≤ s.room := by
    have : used (fput s.files n ((fget s.files n).1, (fget s.files n).1.size)) + (fget s.files n).1.size = used s.files + (fget s.files n).1.size := used_put' h.nodup n ((fget s.files n).1, (fget s.files n).1.size)
    have := h.used
    omega
  have hD := D_deed h3 hds n true 37 38 #[] #[ptr w.heap.size, ptr (w.heap.size + 1)] 0 (fput s.files n ((fget s.files n).1, (fget s.files n).1.size)) (enters_of Try.func37 (by kernel_rfl) rfl) (enters_of Try.func38 (by kernel_rfl) rfl)
    (fun w1 b1 => D_always _ _)
    (fun w2 he t2 d2 => by
      have := D_sync1 d2 (hB.touch t2 q1 q2) (fget s.files n).1 (fget s.files n).2 (by rw [(turnR_room s).1, (turnR_room s).2]; exact hu)
      rw [(turnR_room s).2] at this
      exact this)
  have hD' : Calls Try.prog 27 _ _ fun e w' => e = .returned (.int .i64 (syncR s n).1) ∧ DiskAt w' d m (syncR s n).2 ∧ Touch [d, m] _ w' := hD
  have HD := Lib.hid hD'
  clear hD'
  have HB3 := Lib.hid b3
  clear hD b3 h h3 hB hfg hlt q1 q2 hu
  go_enter Try.func25, Try.ntmps25
  go_wp2_with fail
  go_at_call 27
  with_reducible refine HD.out.mono ?_
  rintro e w1 ⟨rfl, h1, t1⟩
  have HF := Lib.hid h1
  have HT := Lib.hid ((Touch.of_below HB3.out).trans t1)
  clear h1 t1
  go_wp2
  go_ret
  exact ⟨rfl, HF.out, HT.out⟩
set_option maxHeartbeats 4000000 in
set_option maxRecDepth 100000 in
theorem D_cut {w : World} {d m : Nat} {s : Dst} (h : DiskAt w d m s) (hds : s.deeds ≤ 1000000000) (n : ByteArray) (c : Int) :
    Calls Try.prog 30 #[ptr d, .string n, .int .i64 c] w fun e w' => e = .returned (.int .i64 (cutR s n c).1) ∧ DiskAt w' d m (cutR s n c).2 ∧ Touch [d, m] w w' := by
  have b3 : Below w.heap.size w (((w.alloc (.cells #[ptr d] 24)).alloc (.cells #[.string n] 9)).alloc (.cells #[.int .i64 c] 3)) := (((Below.refl _ _).alloc (Nat.le_refl _) _).alloc (by simp) _).alloc (by simp; omega) _
  have h3 := h.below b3
  have hB : Boxes (((w.alloc (.cells #[ptr d] 24)).alloc (.cells #[.string n] 9)).alloc (.cells #[.int .i64 c] 3)) w.heap.size (w.heap.size + 1) d n := ⟨(push_old (by simp; omega)).trans ((push_old (by simp)).trans (push_new rfl)), (push_old (by simp)).trans (push_new (by simp))⟩
  have hS : (((w.alloc (.cells #[ptr d] 24)).alloc (.cells #[.string n] 9)).alloc (.cells #[.int .i64 c] 3)).heap[w.heap.size + 1 + 1]? = some (.cells #[.int .i64 c] 3 (0, 0)) := push_new (by simp)
  have hlt := h.lt
  have hfg := (h.fget n).1
  have q1 : w.heap.size ∉ [d] := by simp; omega
  have q2 : w.heap.size + 1 ∉ [d] := by simp; omega
  have q3 : w.heap.size + 1 + 1 ∉ [d] := by simp; omega
  have hu : (used (fput s.files n ((fget s.files n).1.extract 0 c.toNat, min (fget s.files n).2 c.toNat)) : Int) ≤ s.room := by
    have := used_put' h.nodup n ((fget s.files n).1.extract 0 c.toNat, min (fget s.files n).2 c.toNat)
    have := h.used
    have he : ((fget s.files n).1.extract 0 c.toNat).size ≤ (fget s.files n).1.size := by simp; omega
    simp only at *
    omega
  have hD := D_deed h3 hds n true 42 43 #[ptr (w.heap.size + 1 + 1)] #[ptr (w.heap.size + 1 + 1), ptr w.heap.size, ptr (w.heap.size + 1)] (if c < 0 ∨ ((fget s.files n).1.size : Int) < c then 1 else 0) (fput s.files n ((fget s.files n).1.extract 0 c.toNat, min (fget s.files n).2 c.toNat)) (enters_of Try.func42 (by kernel_rfl) rfl) (enters_of Try.func43 (by kernel_rfl) rfl)
    (fun w1 b1 => D_cut1 ((b1.block _ (lt_of_heap hS)).trans hS) _)
    (fun w2 he t2 d2 => by
      have hc : 0 ≤ c ∧ c ≤ ((fget s.files n).1.size : Int) := by
        by_cases hq : c < 0 ∨ ((fget s.files n).1.size : Int) < c
        · rw [if_pos hq] at he; cases he
        · omega
      have hcn : ((c.toNat : Nat) : Int) = c := by omega
      have hS2 := (t2.block _ (lt_of_heap hS) q3).trans hS
      rw [← hcn] at hS2
      have := D_cut2 d2 (hB.touch t2 q1 q2) c.toNat (min (fget s.files n).2 c.toNat) hS2 (fget s.files n).1 (fget s.files n).2 (by omega) rfl (by rw [(turnR_room s).1, (turnR_room s).2]; exact hu)
      rw [(turnR_room s).2] at this
      exact this)
  have hD' : Calls Try.prog 27 _ _ fun e w' => e = .returned (.int .i64 (cutR s n c).1) ∧ DiskAt w' d m (cutR s n c).2 ∧ Touch [d, m] _ w' := hD
  have HD := Lib.hid hD'
  clear hD'
  have HB3 := Lib.hid b3
  clear hD b3 h h3 hB hfg hlt q1 q2 q3 hS hu
  go_enter Try.func30, Try.ntmps30
  go_wp2_with fail
  go_at_call 27
  with_reducible refine HD.out.mono ?_
  rintro e w1 ⟨rfl, h1, t1⟩
  have HF := Lib.hid h1
  have HT := Lib.hid ((Touch.of_below HB3.out).trans t1)
  clear h1 t1
  go_wp2
  go_ret
  exact ⟨rfl, HF.out, HT.out⟩
set_option maxHeartbeats 4000000 in
set_option maxRecDepth 100000 in
theorem D_rename {w : World} {d m : Nat} {s : Dst} (h : DiskAt w d m s) (hds : s.deeds ≤ 1000000000) (n : ByteArray) (to : ByteArray) :
    Calls Try.prog 31 #[ptr d, .string n, .string to] w fun e w' => e = .returned (.int .i64 (renR s n to).1) ∧ DiskAt w' d m (renR s n to).2 ∧ Touch [d, m] w w' := by
  have b3 : Below w.heap.size w (((w.alloc (.cells #[ptr d] 24)).alloc (.cells #[.string n] 9)).alloc (.cells #[.string to] 9)) := (((Below.refl _ _).alloc (Nat.le_refl _) _).alloc (by simp) _).alloc (by simp; omega) _
  have h3 := h.below b3
  have hB : Boxes (((w.alloc (.cells #[ptr d] 24)).alloc (.cells #[.string n] 9)).alloc (.cells #[.string to] 9)) w.heap.size (w.heap.size + 1) d n := ⟨(push_old (by simp; omega)).trans ((push_old (by simp)).trans (push_new rfl)), (push_old (by simp)).trans (push_new (by simp))⟩
  have hS : (((w.alloc (.cells #[ptr d] 24)).alloc (.cells #[.string n] 9)).alloc (.cells #[.string to] 9)).heap[w.heap.size + 1 + 1]? = some (.cells #[.string to] 9 (0, 0)) := push_new (by simp)
  have hlt := h.lt
  have hfg := (h.fget n).1
  have q1 : w.heap.size ∉ [d] := by simp; omega
  have q2 : w.heap.size + 1 ∉ [d] := by simp; omega
  have q3 : w.heap.size + 1 + 1 ∉ [d] := by simp; omega
  have hu : (used (fput (fdel s.files n) to (fget s.files n)) : Int) ≤ s.room := by
    have h1 := used_put' (fdel_nodup n h.nodup) to (fget s.files n)
    have h2 := used_del h.nodup n
    have := h.used
    omega
  have hD := D_deed h3 hds n true 37 44 #[] #[ptr w.heap.size, ptr (w.heap.size + 1), ptr (w.heap.size + 1 + 1)] 0 (fput (fdel s.files n) to (fget s.files n)) (enters_of Try.func37 (by kernel_rfl) rfl) (enters_of Try.func44 (by kernel_rfl) rfl)
    (fun w1 b1 => D_always _ _)
    (fun w2 he t2 d2 => by
      have := D_ren1 d2 (hB.touch t2 q1 q2) ((t2.block _ (lt_of_heap hS) q3).trans hS) (fget s.files n).1 (fget s.files n).2 hfg (by rw [(turnR_room s).1, (turnR_room s).2]; exact hu)
      rw [(turnR_room s).2] at this
      exact this)
  have hD' : Calls Try.prog 27 _ _ fun e w' => e = .returned (.int .i64 (renR s n to).1) ∧ DiskAt w' d m (renR s n to).2 ∧ Touch [d, m] _ w' := hD
  have HD := Lib.hid hD'
  clear hD'
  have HB3 := Lib.hid b3
  clear hD b3 h h3 hB hfg hlt q1 q2 q3 hS hu
  go_enter Try.func31, Try.ntmps31
  go_wp2_with fail
  go_at_call 27
  with_reducible refine HD.out.mono ?_
  rintro e w1 ⟨rfl, h1, t1⟩
  have HF := Lib.hid h1
  have HT := Lib.hid ((Touch.of_below HB3.out).trans t1)
  clear h1 t1
  go_wp2
  go_ret
  exact ⟨rfl, HF.out, HT.out⟩
set_option maxHeartbeats 4000000 in
set_option maxRecDepth 100000 in
theorem D_remove {w : World} {d m : Nat} {s : Dst} (h : DiskAt w d m s) (hds : s.deeds ≤ 1000000000) (n : ByteArray) :
    Calls Try.prog 32 #[ptr d, .string n] w fun e w' => e = .returned (.int .i64 (remR s n).1) ∧ DiskAt w' d m (remR s n).2 ∧ Touch [d, m] w w' := by
  have b3 : Below w.heap.size w ((w.alloc (.cells #[ptr d] 24)).alloc (.cells #[.string n] 9)) := (((Below.refl _ _).alloc (Nat.le_refl _) _).alloc (by simp) _)
  have h3 := h.below b3
  have hB : Boxes ((w.alloc (.cells #[ptr d] 24)).alloc (.cells #[.string n] 9)) w.heap.size (w.heap.size + 1) d n := ⟨(push_old (by simp)).trans (push_new rfl), push_new (by simp)⟩
  have hlt := h.lt
  have hfg := (h.fget n).1
  have q1 : w.heap.size ∉ [d] := by simp; omega
  have q2 : w.heap.size + 1 ∉ [d] := by simp; omega
  have hD := D_deed h3 hds n true 37 45 #[] #[ptr w.heap.size, ptr (w.heap.size + 1)] 0 (fdel s.files n) (enters_of Try.func37 (by kernel_rfl) rfl) (enters_of Try.func45 (by kernel_rfl) rfl)
    (fun w1 b1 => D_always _ _)
    (fun w2 he t2 d2 => by
      have := D_rem1 d2 (hB.touch t2 q1 q2) (fget s.files n).1 (fget s.files n).2
      rw [(turnR_room s).2] at this
      exact this)
  have hD' : Calls Try.prog 27 _ _ fun e w' => e = .returned (.int .i64 (remR s n).1) ∧ DiskAt w' d m (remR s n).2 ∧ Touch [d, m] _ w' := hD
  have HD := Lib.hid hD'
  clear hD'
  have HB3 := Lib.hid b3
  clear hD b3 h h3 hB hfg hlt q1 q2
  go_enter Try.func32, Try.ntmps32
  go_wp2_with fail
  go_at_call 27
  with_reducible refine HD.out.mono ?_
  rintro e w1 ⟨rfl, h1, t1⟩
  have HF := Lib.hid h1
  have HT := Lib.hid ((Touch.of_below HB3.out).trans t1)
  clear h1 t1
  go_wp2
  go_ret
  exact ⟨rfl, HF.out, HT.out⟩
end Go.Proofs.Ytakefjdckacgpaa.Cod
